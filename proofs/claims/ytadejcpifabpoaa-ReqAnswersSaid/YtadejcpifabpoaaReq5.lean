/- Contract of req.EncodeAnswer. -/
import Derived.Test.YtadejcpifabpoaaReq4
namespace Go.Proofs.Ytadejcpifabpoaa
open Go.RowKit
set_option linter.unusedVariables false

instance : Inhabited EV := ⟨⟨0, 0, 0, 0, 0, 0, 0, ⟨#[]⟩, ⟨#[]⟩⟩⟩
def EV.at_ (r : EV) (w : World) (b o : Nat) : Prop := ∀ j v, r.cells[j]? = some v → w.cell? ⟨b, o + j, none⟩ = some v
theorem EV.at_.all {r : EV} {w : World} {b o : Nat} (h : r.at_ w b o) : w.cell? ⟨b, o, none⟩ = some (.int .i64 r.k) ∧ w.cell? ⟨b, o + 1, none⟩ = some (.int .i64 r.f) ∧ w.cell? ⟨b, o + 2, none⟩ = some (.int .i64 r.t) ∧ w.cell? ⟨b, o + 3, none⟩ = some (.int .i64 r.a) ∧ w.cell? ⟨b, o + 4, none⟩ = some (.int .i64 r.n) ∧
    w.cell? ⟨b, o + 5, none⟩ = some (.int .i64 r.i) ∧ w.cell? ⟨b, o + 6, none⟩ = some (.int .i64 r.d) ∧ w.cell? ⟨b, o + 7, none⟩ = some (.string r.h) ∧ w.cell? ⟨b, o + 8, none⟩ = some (.string r.s) :=
  ⟨h 0 _ rfl, h 1 _ rfl, h 2 _ rfl, h 3 _ rfl, h 4 _ rfl, h 5 _ rfl, h 6 _ rfl, h 7 _ rfl, h 8 _ rfl⟩
theorem EV.at_.below {w w' : World} {b o : Nat} {r : EV} (h : r.at_ w b o) (hb : Below w.heap.size w w') : r.at_ w' b o := fun j v hv => by
  have h1 := h j v hv
  rw [hb.cell (World.block_lt_of_cell? w _ h1)]; exact h1
def EvsAt (w : World) (ao : Option Addr) (rs : List EV) : Prop := rs = [] ∨ ∃ b off, ao = some ⟨b, off, none⟩ ∧ ∀ i (h : i < rs.length), rs[i].at_ w b (off + i * 9)
theorem EvsAt.below {w w' : World} {ao : Option Addr} {rs : List EV} (h : EvsAt w ao rs) (hb : Below w.heap.size w w') : EvsAt w' ao rs := by
  rcases h with h | ⟨b, off, h1, h2⟩
  · exact Or.inl h
  · exact Or.inr ⟨b, off, h1, fun i hi => (h2 i hi).below hb⟩
theorem ev_cells {w : World} {ao : Option Addr} {rs : List EV} (h : EvsAt w ao rs) (i : Nat) (hi : i < rs.length) : ∃ b off, ao = some ⟨b, off, none⟩ ∧ rs[i].at_ w b (off + i * 9) := by
  rcases h with h | ⟨b, off, h1, h2⟩
  · rw [h] at hi; simp at hi
  · exact ⟨b, off, h1, h2 i hi⟩
def RepsAt (w : World) (ao : Option Addr) (rs : List (Int × Int)) : Prop := rs = [] ∨ ∃ b off, ao = some ⟨b, off, none⟩ ∧ ∀ i (h : i < rs.length), w.cell? ⟨b, off + i * 2, none⟩ = some (.int .i64 rs[i].1) ∧ w.cell? ⟨b, off + i * 2 + 1, none⟩ = some (.int .i64 rs[i].2)
theorem RepsAt.below {w w' : World} {ao : Option Addr} {rs : List (Int × Int)} (h : RepsAt w ao rs) (hb : Below w.heap.size w w') : RepsAt w' ao rs := by
  rcases h with h | ⟨b, off, h1, h2⟩
  · exact Or.inl h
  · refine Or.inr ⟨b, off, h1, fun i hi => ?_⟩
    obtain ⟨c0, c1⟩ := h2 i hi
    exact ⟨by rw [hb.cell (World.block_lt_of_cell? w _ c0)]; exact c0, by rw [hb.cell (World.block_lt_of_cell? w _ c1)]; exact c1⟩
theorem rep_cells {w : World} {ao : Option Addr} {rs : List (Int × Int)} (h : RepsAt w ao rs) (i : Nat) (hi : i < rs.length) : ∃ b off, ao = some ⟨b, off, none⟩ ∧ w.cell? ⟨b, off + i * 2, none⟩ = some (.int .i64 rs[i].1) ∧ w.cell? ⟨b, off + i * 2 + 1, none⟩ = some (.int .i64 rs[i].2) := by
  rcases h with h | ⟨b, off, h1, h2⟩
  · rw [h] at hi; simp at hi
  · exact ⟨b, off, h1, h2 i hi⟩

def encRep (st : List Int × Bool) (r : Int × Int) : List Int × Bool := numOut (numOut st r.1 1) r.2 2
def encEv (st : List Int × Bool) (e : EV) : List Int × Bool := evOut e (hasN e.k true) st
def ansHead (clock seen : Int) (n : Nat) : List Int × Bool := numOut (numOut (numOut ([], false) clock 8) seen 2) n 1
def ansSt (clock seen : Int) (rs : List (Int × Int)) (es : List EV) : List Int × Bool := es.foldl encEv (numOut (rs.foldl encRep (ansHead clock seen rs.length)) es.length 2)
def ansOK (clock : Int) (n m : Nat) : Bool := tickB clock && decide (n ≤ 64) && decide (m ≤ 400)
def ansF (clock seen : Int) (rs : List (Int × Int)) (es : List EV) : List Int × Int := if ansOK clock rs.length es.length = true then outEnd (ansSt clock seen rs es) else ([], 1)

def evSum (rs : List EV) : Nat := (rs.map (fun r => r.h.size + r.s.size)).sum
theorem evsFold_len (l : List EV) (st : List Int × Bool) : (l.foldl encEv st).1.length ≤ st.1.length + 64 * l.length + evSum l := by
  induction l generalizing st with
  | nil => simp [evSum]
  | cons r l ih =>
    have h1 := ih (encEv st r)
    have h2 := evOut_len r (hasN r.k true) st
    have h3 := (hasN_in r.k true).2
    have h4 : evSum (r :: l) = r.h.size + r.s.size + evSum l := by simp [evSum]
    simp only [List.foldl_cons, List.length_cons]
    unfold encEv at *
    omega
theorem evSum_take (rs : List EV) (k : Nat) : evSum (rs.take k) ≤ evSum rs := by
  have h := congrArg evSum (List.take_append_drop k rs)
  unfold evSum at *
  rw [List.map_append, List.sum_append] at h
  omega
theorem evSum_at (rs : List EV) (k : Nat) (hk : k < rs.length) : evSum (rs.take k) + (rs[k].h.size + rs[k].s.size) ≤ evSum rs := by
  have h := evSum_take rs (k + 1)
  rw [List.take_succ_eq_append_getElem hk] at h
  unfold evSum at *
  simp only [List.map_append, List.sum_append, List.map_cons, List.map_nil, List.sum_cons, List.sum_nil] at h
  omega
theorem repFold_len (l : List (Int × Int)) (st : List Int × Bool) : (l.foldl encRep st).1.length ≤ st.1.length + 16 * l.length := by
  induction l generalizing st with
  | nil => simp
  | cons r l ih =>
    have h1 := ih (encRep st r)
    have h2 := numOut_len st r.1 1 (by omega)
    have h3 := numOut_len (numOut st r.1 1) r.2 2 (by omega)
    simp only [List.foldl_cons, List.length_cons]
    unfold encRep at *
    omega
theorem ansHead_len (clock seen : Int) (n : Nat) : (ansHead clock seen n).1.length ≤ 24 := by
  have h1 := numOut_len ([], false) clock 8 (by omega)
  have h2 := numOut_len (numOut ([], false) clock 8) seen 2 (by omega)
  have h3 := numOut_len (numOut (numOut ([], false) clock 8) seen 2) n 1 (by omega)
  unfold ansHead
  simp only [List.length_nil] at h1
  omega

/-- A buffer of the call's own: nothing that was there before w0 is touched. -/
def OutAt (w0 w : World) (p : Nat) (v : Value) (st : List Int × Bool) : Prop :=
  BufAt 80 w p v st.1 (.bool st.2) ∧ Below w0.heap.size w0 w ∧ w0.heap.size < p ∧ (∀ g, v.ownBlock = some g → w0.heap.size < g) ∧ w0.heap.size < w.heap.size
theorem OutAt.post {w0 w w' : World} {p : Nat} {v : Value} {st st' : List Int × Bool} (h : OutAt w0 w p v st) (hp : BufPost 80 w p v st'.1 (.bool st'.2) w') : ∃ v', OutAt w0 w' p v' st' ∧ Keeps (fpE p v) w w' := by
  obtain ⟨h1, h2, h3, h4, h5⟩ := h
  obtain ⟨v', a1, a2, a3⟩ := hp
  have hs := a2.size
  refine ⟨v', ⟨a1, h2.trans (a2.below h2.size (fun k hk => by rcases hk with rfl | hk; omega; have := h4 k hk; omega)), h3, fun g hg => ?_, by omega⟩, a2⟩
  rcases a3 g hg with e | e
  · exact h4 g e
  · omega
theorem OutAt.below {w0 w w' : World} {p : Nat} {v : Value} {st : List Int × Bool} (h : OutAt w0 w p v st) (hb : Below w.heap.size w w') : OutAt w0 w' p v st :=
  ⟨h.1.below hb, h.2.1.trans (hb.mono h.2.1.size), h.2.2.1, h.2.2.2.1, Nat.lt_of_lt_of_le h.2.2.2.2 hb.size⟩
theorem OutAt.num {w0 w : World} {p : Nat} {v : Value} {st : List Int × Bool} (h : OutAt w0 w p v st) (n size : Int) (hl : st.1.length + 8 ≤ 140737488355328) :
    Calls Try.prog 51 #[.pointer (some ⟨p, 0, none⟩), .int .i64 n, .int .i64 size] w fun en w' => en = .returned (.tuple #[]) ∧ ∃ v', OutAt w0 w' p v' (numOut st n size) ∧ Keeps (fpE p v) w w' :=
  (out_num p v st.1 st.2 n size w h.1 hl).mono fun _ _ ⟨a, b⟩ => ⟨a, h.post b⟩
/-- What the buffer's call keeps of the head w0. -/
theorem OutAt.head {w0 w w' : World} {p : Nat} {v : Value} {st : List Int × Bool} (h : OutAt w0 w p v st) (hk : Keeps (fpE p v) w w') {o : Obj} (ho : w.heap[w0.heap.size]? = some o) : w'.heap[w0.heap.size]? = some o :=
  (hk.block _ (blk_lt ho) (fun hf => by rcases hf with hf | hf; have := h.2.2.1; omega; have := h.2.2.2.1 _ hf; omega)).trans ho

theorem outEnd_post {w0 w : World} {p : Nat} {v : Value} {st : List Int × Bool} (h : OutAt w0 w p v st) (ao : Option Addr) (cap : Nat) (hv : .slice ao (outEnd st).1.length cap = v ∨ (outEnd st).1 = [] ∧ ao = none ∧ cap = 0) : EncBPost w0 (outEnd st) (.returned (.tuple #[.slice ao (outEnd st).1.length cap, .int .i64 (outEnd st).2])) w := by
  obtain ⟨h1, h2, h3, h4, h5⟩ := h
  refine ⟨ao, cap, rfl, ?_, h2, fun a ha => ?_, ?_⟩
  · rcases hv with hv | ⟨hv, _⟩
    · subst hv
      have ho := h1.2.1
      unfold outEnd at *
      split at ho
      · rename_i hb; rw [if_pos hb]; exact Or.inl rfl
      · rename_i hb; rw [if_neg hb]; exact (owns_at ho).2.1
    · exact Or.inl hv
  · rcases hv with hv | ⟨_, hv, _⟩
    · have := h4 a.block (by rw [← hv, ha]; rfl)
      omega
    · rw [hv] at ha; cases ha
  · rcases hv with hv | ⟨hv, _, h2⟩
    · exact own_bounds h1.2.1 hv
    · rw [hv, h2]; exact ⟨Nat.le_refl _, Nat.zero_le _⟩

set_option maxRecDepth 100000 in
set_option maxHeartbeats 4000000 in
theorem encodeAnswer (clock seen : Int) (ra : Option Addr) (rs : List (Int × Int)) (n rc : Nat) (ea : Option Addr) (es : List EV) (m ec : Nat) (w : World) (hn : rs.length = n) (hr : RepsAt w ra rs) (hm : es.length = m) (he : EvsAt w ea es) (hsum : evSum es ≤ 1000000000) :
    Calls Try.prog 34 #[.agg #[.int .i64 clock, .int .i64 seen, .slice ra n rc, .slice ea m ec]] w (EncBPost w (ansF clock seen rs es)) := by
  have HR := Lib.hid hr
  have HE := Lib.hid he
  have HN := Lib.hid hn
  have HM := Lib.hid hm
  have HS := Lib.hid hsum
  by_cases hok : ansOK clock n m = true
  · have HF := Lib.hid (show ansF clock seen rs es = outEnd (ansSt clock seen rs es) by simp [ansF, hn, hm, hok])
    simp only [ansOK, Bool.and_eq_true, decide_eq_true_eq] at hok
    obtain ⟨⟨htick, h64⟩, h400⟩ := hok
    have i64 : ¬ (64 : Int) < (n : Int) := by omega
    have i400 : ¬ (400 : Int) < (m : Int) := by omega
    obtain ⟨w2, hw2⟩ : ∃ w2, w2 = (w.alloc (.cells #[.int .i64 clock, .int .i64 seen, .slice ra n rc, .slice ea m ec] 57)).alloc (.cells #[.slice none 0 0, .bool false] 80) := ⟨_, rfl⟩
    have HO2 : Hid (OutAt w w2 (w.heap.size + 1) (.slice none 0 0) ([], false)) := Lib.hid (by
      subst hw2
      have := buf_new (w.alloc (.cells #[.int .i64 clock, .int .i64 seen, .slice ra n rc, .slice ea m ec] 57)) 80 (.bool false)
      exact ⟨by simpa using this, ((Below.refl _ _).alloc (Nat.le_refl _) _).alloc (by simp) _, by omega, (fun g hg => by cases hg), by simp; omega⟩)
    have HX2 : Hid (w2.heap[w.heap.size]? = some (.cells #[.int .i64 clock, .int .i64 seen, .slice ra n rc, .slice ea m ec] 57 (0, 0))) := Lib.hid (by
      subst hw2
      exact (Below.heap_alloc _ _ _ (by simp)).trans (heap_alloc_new w _))
    have HW2 := Lib.hid hw2
    have HCX : Hid (∀ w' : World, w'.heap[w.heap.size]? = some (.cells #[.int .i64 clock, .int .i64 seen, .slice ra n rc, .slice ea m ec] 57 (0, 0)) → w'.cell? ⟨w.heap.size, 0, none⟩ = some (.int .i64 clock) ∧ w'.cell? ⟨w.heap.size, 1, none⟩ = some (.int .i64 seen) ∧ w'.cell? ⟨w.heap.size, 2, none⟩ = some (.slice ra n rc) ∧ w'.cell? ⟨w.heap.size, 3, none⟩ = some (.slice ea m ec)) := Lib.hid (fun w' hw' => by
      refine ⟨?_, ?_, ?_, ?_⟩
      all_goals
        rw [blk_cell hw']; rfl)
    have HHL := Lib.hid (ansHead_len clock seen n)
    have HH1 := Lib.hid (numOut_len ([], false) clock 8 (by omega))
    have HH2 := Lib.hid (numOut_len (numOut ([], false) clock 8) seen 2 (by omega))
    have HST := Lib.hid (show ansSt clock seen rs es = es.foldl encEv (numOut (rs.foldl encRep (numOut (numOut (numOut ([], false) clock 8) seen 2) n 1)) m 2) by rw [ansSt, ansHead, hn, hm])
    clear hr he hn hm hsum hw2 h64 h400
    go_enter Try.func34, Try.ntmps34
    go_wp2_with (go_at_call 61; refine (tick_any _ _).mono ?_; rintro e w' ⟨rfl, rfl⟩)
    rw [← HW2.out]
    refine (HO2.out.num clock 8 (by simp)).mono ?_
    rintro en w3 ⟨rfl, v3, ho3, hk3⟩
    have HO3 := Lib.hid ho3
    have HX3 := Lib.hid (HO2.out.head hk3 HX2.out)
    obtain ⟨c0, c1, c2, c3⟩ := HCX.out w3 HX3.out
    clear ho3 hk3
    go_wp2_with fail
    refine (HO3.out.num seen 2 (by have := HH1.out; simp at this; omega)).mono ?_
    rintro en w4 ⟨rfl, v4, ho4, hk4⟩
    have HO4 := Lib.hid ho4
    have HX4 := Lib.hid (HO3.out.head hk4 HX3.out)
    obtain ⟨d0, d1, d2, d3⟩ := HCX.out w4 HX4.out
    clear ho4 hk4 c0 c1 c2 c3
    go_wp2_with fail
    refine (HO4.out.num n 1 (by have := HH1.out; have := HH2.out; simp at *; omega)).mono ?_
    rintro en w5 ⟨rfl, v5, ho5, hk5⟩
    have HO5 := Lib.hid ho5
    have HX5 := Lib.hid (HO4.out.head hk5 HX4.out)
    obtain ⟨e0, e1, e2, e3⟩ := HCX.out w5 HX5.out
    clear ho5 hk5 d0 d1 d2 d3
    have HL0 : Hid ((numOut (numOut (numOut ([], false) clock 8) seen 2) (n : Int) 1).1.length ≤ 24) := Lib.hid HHL.out
    generalize numOut (numOut (numOut ([], false) clock 8) seen 2) (n : Int) 1 = st0 at *
    go_wp2_with fail
    go_loopw [38] (fun i wr => ∃ k v', k ≤ n ∧ i = .int .i64 (k : Nat) ∧ OutAt w wr (w.heap.size + 1) v' ((rs.take k).foldl encRep st0) ∧ wr.heap[w.heap.size]? = some (.cells #[.int .i64 clock, .int .i64 seen, .slice ra n rc, .slice ea m ec] 57 (0, 0))) (fun i _ => n + 1 - (intOf i + 1).toNat)
    case atStart => exact ⟨0, v5, Nat.zero_le _, rfl, HO5.out, HX5.out⟩
    case round =>
      obtain ⟨k, v', hk, rfl, ho, hx⟩ := hrel
      have HO := Lib.hid ho
      have HX := Lib.hid hx
      by_cases hlt : k < n
      · have hkb : k < rs.length := by rw [HN.out]; exact hlt
        obtain ⟨rb, roff, rfl, c0, c1⟩ := rep_cells (HR.out.below ho.2.1) k hkb
        have HSNOC : Hid ((rs.take (k + 1)).foldl encRep st0 = encRep ((rs.take k).foldl encRep st0) rs[k]) := Lib.hid (by rw [List.take_succ_eq_append_getElem hkb, List.foldl_append]; rfl)
        have HLEN : Hid (((rs.take k).foldl encRep st0).1.length + 100 ≤ 2000000000) := Lib.hid (by
          have h1 := repFold_len (rs.take k) st0
          have h3 : (rs.take k).length ≤ 64 := by simp; omega
          have := HL0.out
          omega)
        generalize (rs.take k).foldl encRep st0 = st at *
        generalize rs[k] = r at *
        obtain ⟨r1, r2⟩ := r
        clear ho hx
        have j0 : (0 : Int) ≤ (k : Int) := by omega
        have j1 : (k : Int) < (n : Int) := by omega
        go_wp2_with fail
        obtain ⟨wA, hwA⟩ : ∃ wA, wA = wr.alloc (.cells #[.int .i64 r1, .int .i64 r2] 94) := ⟨_, rfl⟩
        rw [← hwA]
        have HBL : Hid (wA.heap[wr.heap.size]? = some (.cells #[.int .i64 r1, .int .i64 r2] 94 (0, 0))) := Lib.hid (by subst hwA; exact heap_alloc_new wr _)
        have HBE : Hid (Below wr.heap.size wr wA) := Lib.hid (by subst hwA; exact (Below.refl _ _).alloc (Nat.le_refl _) _)
        have HOA := Lib.hid (HO.out.below HBE.out)
        have HXA := Lib.hid ((HBE.out.block _ (blk_lt HX.out)).trans HX.out)
        have HNF : Hid (¬ fpE (w.heap.size + 1) v' wr.heap.size) := Lib.hid (fun hf => by have := HO.out.1.lt _ hf; omega)
        have HLN := Lib.hid (numOut_len st r1 1 (by omega))
        clear hwA c0 c1
        refine (HOA.out.num r1 1 (by have := HLEN.out; omega)).mono ?_
        rintro en w6 ⟨rfl, v6, ho6, hk6⟩
        have HO6 := Lib.hid ho6
        have HX6 := Lib.hid (HOA.out.head hk6 HXA.out)
        have hb6 := (hk6.block _ (blk_lt HBL.out) HNF.out).trans HBL.out
        have b1 := blk_cell hb6 1
        simp only [List.getElem?_toArray, List.getElem?_cons_zero, List.getElem?_cons_succ] at b1
        clear ho6 hk6 hb6
        go_wp2_with fail
        refine (HO6.out.num r2 2 (by have := HLEN.out; have := HLN.out; omega)).mono ?_
        rintro en w7 ⟨rfl, v7, ho7, hk7⟩
        have HO7 := Lib.hid ho7
        have HX7 := Lib.hid (HO6.out.head hk7 HX6.out)
        clear ho7 hk7
        go_wp2
        go_roundw
        case rel => exact ⟨k + 1, v7, by omega, by go_num, by rw [HSNOC.out]; exact HO7.out, HX7.out⟩
        case measure => simp [intOf]; omega
      · obtain rfl : k = n := by omega
        have HTK : Hid ((rs.take k).foldl encRep st0 = rs.foldl encRep st0) := Lib.hid (by rw [List.take_of_length_le (by rw [HN.out]; exact Nat.le_refl _)])
        rw [HTK.out] at HO
        have HLR : Hid ((rs.foldl encRep st0).1.length ≤ 2000) := Lib.hid (by
          have h1 := repFold_len rs st0
          have := HL0.out
          have := HN.out
          omega)
        obtain ⟨f0, f1, f2, f3⟩ := HCX.out wr hx
        generalize rs.foldl encRep st0 = st1 at *
        have HLM := Lib.hid (numOut_len st1 m 2 (by omega))
        clear ho hx hlt hk e0 e1 e2 e3
        go_wp2_with fail
        refine (HO.out.num m 2 (by have := HLR.out; omega)).mono ?_
        rintro en w6 ⟨rfl, v6, ho6, hk6⟩
        have HO6 := Lib.hid ho6
        have HX6 := Lib.hid (HO.out.head hk6 HX.out)
        obtain ⟨g0, g1, g2, g3⟩ := HCX.out w6 HX6.out
        clear ho6 hk6 f0 f1 f2 f3
        have HL6 : Hid ((numOut st1 (m : Int) 2).1.length ≤ 2008) := Lib.hid (by have := HLR.out; have := HLM.out; omega)
        generalize numOut st1 (m : Int) 2 = st2 at *
        go_wp2_with fail
        obtain ⟨wo, rfl⟩ : ∃ wo : World, wo = wr := ⟨_, rfl⟩
        go_loopw [56] (fun i wr => ∃ q v', q ≤ m ∧ i = .int .i64 (q : Nat) ∧ OutAt w wr (w.heap.size + 1) v' ((es.take q).foldl encEv st2)) (fun i _ => m + 1 - (intOf i + 1).toNat)
        case atStart => exact ⟨0, v6, Nat.zero_le _, rfl, HO6.out⟩
        case round =>
          obtain ⟨q, v', hq, rfl, ho⟩ := hrel
          have HOQ := Lib.hid ho
          by_cases hql : q < m
          · have hqb : q < es.length := by rw [HM.out]; exact hql
            obtain ⟨eb, eoff, rfl, hat⟩ := ev_cells (HE.out.below ho.2.1) q hqb
            have HSNOC : Hid ((es.take (q + 1)).foldl encEv st2 = encEv ((es.take q).foldl encEv st2) es[q]) := Lib.hid (by rw [List.take_succ_eq_append_getElem hqb, List.foldl_append]; rfl)
            have HLEN : Hid (((es.take q).foldl encEv st2).1.length + 100 + es[q].h.size + es[q].s.size ≤ 2000000000) := Lib.hid (by
              have h1 := evsFold_len (es.take q) st2
              have h2 := evSum_at es q hqb
              have h3 : (es.take q).length ≤ 400 := by simp; omega
              have := HL6.out
              have := HS.out
              omega)
            generalize (es.take q).foldl encEv st2 = st at *
            generalize es[q] = r at *
            obtain ⟨c0, c1, c2, c3, c4, c5, c6, c7, c8⟩ := hat.all
            clear hat ho
            have j0 : (0 : Int) ≤ (q : Int) := by omega
            have j1 : (q : Int) < (m : Int) := by omega
            go_wp2_with fail
            obtain ⟨wA, hwA⟩ : ∃ wA, wA = wr.alloc (.cells #[.int .i64 r.k, .int .i64 r.f, .int .i64 r.t, .int .i64 r.a, .int .i64 r.n, .int .i64 r.i, .int .i64 r.d, .string r.h, .string r.s] 84) := ⟨_, rfl⟩
            rw [← hwA]
            have hbl : wA.heap[wr.heap.size]? = some (.cells r.cells 84 (0, 0)) := by subst hwA; exact heap_alloc_new wr _
            have HBE : Hid (Below wr.heap.size wr wA) := Lib.hid (by subst hwA; exact (Below.refl _ _).alloc (Nat.le_refl _) _)
            have HOA := Lib.hid ((HOQ.out.below HBE.out).below ((Keeps.refl (fun _ => False) wA).drew.below (Nat.le_refl _) (fun _ f => f.elim)))
            have hnf : ¬ fpE (w.heap.size + 1) v' wr.heap.size := fun hf => by have := HOQ.out.1.lt _ hf; omega
            have HCD : Hid (∀ w', Keeps (fpE (w.heap.size + 1) v') wA.drew w' → (w'.cell? ⟨wr.heap.size, 0, none⟩ = some (.int .i64 r.k) ∧ w'.cell? ⟨wr.heap.size, 1, none⟩ = some (.int .i64 r.f) ∧ w'.cell? ⟨wr.heap.size, 2, none⟩ = some (.int .i64 r.t) ∧ w'.cell? ⟨wr.heap.size, 3, none⟩ = some (.int .i64 r.a) ∧ w'.cell? ⟨wr.heap.size, 4, none⟩ = some (.int .i64 r.n) ∧ w'.cell? ⟨wr.heap.size, 5, none⟩ = some (.int .i64 r.i) ∧ w'.cell? ⟨wr.heap.size, 6, none⟩ = some (.int .i64 r.d) ∧ w'.cell? ⟨wr.heap.size, 7, none⟩ = some (.string r.h) ∧ w'.cell? ⟨wr.heap.size, 8, none⟩ = some (.string r.s))) := Lib.hid (fun w' hk' => by
              have hb' : w'.heap[wr.heap.size]? = some (.cells r.cells 84 (0, 0)) := (hk'.block _ (blk_lt hbl) hnf).trans hbl
              refine ⟨?_, ?_, ?_, ?_, ?_, ?_, ?_, ?_, ?_⟩
              all_goals
                rw [blk_cell hb']; rfl)
            clear hwA hbl hnf c0 c1 c2 c3 c4 c5 c6 c7 c8
            obtain ⟨hn1, hn2⟩ := hasN_in r.k true
            have HN1 := Lib.hid hn1
            have HN2 := Lib.hid hn2
            have HEVC := Lib.hid (fun (w1 : World) (h : BufAt 80 w1 (w.heap.size + 1) v' st.1 (.bool st.2)) (hl : st.1.length + 16 + 8 * (hasN r.k true).length + r.h.size + r.s.size ≤ 140737488355328) => out_event (w.heap.size + 1) v' st.1 st.2 r (hasN r.k true) w1 h HN1.out hl)
            unfold EV.cells at HEVC
            clear hn1 hn2
            obtain ⟨z0, z1, z2, z3, z4, z5, z6, z7, z8⟩ := HCD.out wA.drew (Keeps.refl _ _)
            go_wp2_with fail
            go_region_held3 (fun w' => w'.cell? ⟨wr.heap.size, 0, none⟩ = some (.int .i64 r.k) ∧ w'.cell? ⟨wr.heap.size, 1, none⟩ = some (.int .i64 r.f) ∧ w'.cell? ⟨wr.heap.size, 2, none⟩ = some (.int .i64 r.t) ∧ w'.cell? ⟨wr.heap.size, 3, none⟩ = some (.int .i64 r.a) ∧ w'.cell? ⟨wr.heap.size, 4, none⟩ = some (.int .i64 r.n) ∧ w'.cell? ⟨wr.heap.size, 5, none⟩ = some (.int .i64 r.i) ∧ w'.cell? ⟨wr.heap.size, 6, none⟩ = some (.int .i64 r.d) ∧ w'.cell? ⟨wr.heap.size, 7, none⟩ = some (.string r.h) ∧ w'.cell? ⟨wr.heap.size, 8, none⟩ = some (.string r.s))
              (first | go_keep | exact HCD.out _ hk6)
              ((first
                | (go_at_call 54; refine (has_any r.k true _).mono ?_; rintro en w6 ⟨rfl, rfl⟩)
                | (go_at_call 52; refine (HEVC.out _ HOA.out.1 (by have := HLEN.out; have := HN2.out; omega)).mono ?_; rintro en w6 ⟨rfl, hp6⟩; have hk6 := hp6.choose_spec.2.1)))
            obtain ⟨v7, ho7, _⟩ := HOA.out.post hp6
            have HO7 := Lib.hid ho7
            clear ho7 hp6 hk6
            go_wp2
            go_roundw
            case rel => exact ⟨q + 1, v7, by omega, by go_num, by rw [HSNOC.out]; exact HO7.out⟩
            case measure => simp [intOf]; omega
          · obtain rfl : q = m := by omega
            have HTKE : Hid (ansF clock seen rs es = outEnd ((es.take q).foldl encEv st2)) := Lib.hid (by
              rw [HF.out, HST.out, List.take_of_length_le (by rw [HM.out]; exact Nat.le_refl _)])
            generalize (es.take q).foldl encEv st2 = st at *
            clear ho hql
            go_wp2_with fail
            refine (out_done _ v' st.1 st.2 _ HOQ.out.1).mono ?_
            rintro en w5 ⟨⟨ao5, cap5, rfl, hv5⟩, rfl⟩
            have HV := Lib.hid hv5
            clear hv5
            go_wp2
            go_ret2
            rw [HTKE.out]
            exact outEnd_post HOQ.out ao5 cap5 HV.out
  · simp at hok
    have HF := Lib.hid (show ansF clock seen rs es = ([], 1) by simp [ansF, hn, hm, hok])
    have hc : tickB clock = false ∨ (tickB clock = true ∧ (64 : Int) < (n : Int)) ∨ (tickB clock = true ∧ ¬ (64 : Int) < (n : Int) ∧ (400 : Int) < (m : Int)) := by
      unfold ansOK at hok
      cases h : tickB clock
      · exact Or.inl rfl
      · rw [h] at hok
        simp at hok
        by_cases h1 : (64 : Int) < (n : Int)
        · exact Or.inr (Or.inl ⟨rfl, h1⟩)
        · exact Or.inr (Or.inr ⟨rfl, h1, by have := hok (by omega); omega⟩)
    clear hr he hn hm hsum hok
    rcases hc with h1 | ⟨h1, h2⟩ | ⟨h1, h2, h3⟩
    all_goals
      go_enter Try.func34, Try.ntmps34
      go_wp2_with (go_at_call 61; refine (tick_any _ _).mono ?_; rintro e w' ⟨rfl, rfl⟩)
      go_ret2
      rw [HF.out]
      exact ⟨none, 0, rfl, Or.inl rfl, ((Below.refl _ _).alloc (Nat.le_refl _) _).alloc (by simp) _, (fun a ha => by cases ha), Nat.le_refl _, Nat.zero_le _⟩

end Go.Proofs.Ytadejcpifabpoaa
