/- Contract of req.EncodeBatch; chapter 11's example. -/
import Derived.Test.YtkaciaehlibidaaGreatReq3
import Derived.Test.YtkaciaehlibidaaGreatLgB
import Derived.Deep.RegionHeld3
namespace Go.Proofs.YtkaciaehlibidaaGreat
open Go.RowKit
set_option linter.unusedVariables false

instance : Inhabited RQ := ⟨⟨0, 0, 0, 0, 0, 0, ⟨#[]⟩, ⟨#[]⟩⟩⟩
def RQ.at_ (r : RQ) (w : World) (b o : Nat) : Prop := ∀ j v, r.cells[j]? = some v → w.cell? ⟨b, o + j, none⟩ = some v
def RqsAt (w : World) (ao : Option Addr) (rs : List RQ) : Prop := rs = [] ∨ ∃ b off, ao = some ⟨b, off, none⟩ ∧ ∀ i (h : i < rs.length), rs[i].at_ w b (off + i * 8)
theorem RQ.at_.all {r : RQ} {w : World} {b o : Nat} (h : r.at_ w b o) : w.cell? ⟨b, o, none⟩ = some (.int .i64 r.k) ∧ w.cell? ⟨b, o + 1, none⟩ = some (.int .i64 r.t) ∧ w.cell? ⟨b, o + 2, none⟩ = some (.int .i64 r.a) ∧ w.cell? ⟨b, o + 3, none⟩ = some (.int .i64 r.n) ∧
    w.cell? ⟨b, o + 4, none⟩ = some (.int .i64 r.i) ∧ w.cell? ⟨b, o + 5, none⟩ = some (.int .i64 r.d) ∧ w.cell? ⟨b, o + 6, none⟩ = some (.string r.h) ∧ w.cell? ⟨b, o + 7, none⟩ = some (.string r.s) :=
  ⟨h 0 _ rfl, h 1 _ rfl, h 2 _ rfl, h 3 _ rfl, h 4 _ rfl, h 5 _ rfl, h 6 _ rfl, h 7 _ rfl⟩
theorem RQ.at_.below {w w' : World} {b o : Nat} {r : RQ} (h : r.at_ w b o) (hb : Below w.heap.size w w') : r.at_ w' b o := fun j v hv => by
  have h1 := h j v hv
  rw [hb.cell (World.block_lt_of_cell? w _ h1)]; exact h1
theorem RqsAt.below {w w' : World} {ao : Option Addr} {rs : List RQ} (h : RqsAt w ao rs) (hb : Below w.heap.size w w') : RqsAt w' ao rs := by
  rcases h with h | ⟨b, off, h1, h2⟩
  · exact Or.inl h
  · exact Or.inr ⟨b, off, h1, fun i hi => (h2 i hi).below hb⟩
theorem rq_cells {w : World} {ao : Option Addr} {rs : List RQ} (h : RqsAt w ao rs) (i : Nat) (hi : i < rs.length) : ∃ b off, ao = some ⟨b, off, none⟩ ∧ rs[i].at_ w b (off + i * 8) := by
  rcases h with h | ⟨b, off, h1, h2⟩
  · rw [h] at hi; simp at hi
  · exact ⟨b, off, h1, h2 i hi⟩

def encReq (st : List Int × Bool) (r : RQ) : List Int × Bool := evOut r.ev (hasN r.k false) st
def encHead (seen : Int) (n : Nat) : List Int × Bool := numOut (numOut ([], false) seen 2) n 1
def encSt (seen : Int) (rs : List RQ) : List Int × Bool := rs.foldl encReq (encHead seen rs.length)
def encF (seen : Int) (rs : List RQ) : List Int × Int := if 64 < rs.length then ([], 1) else outEnd (encSt seen rs)

theorem hasN_in (k : Int) (ev : Bool) : (∀ c ∈ hasN k ev, 0 ≤ c ∧ c < 128) ∧ (hasN k ev).length ≤ 7 := by
  unfold hasN
  repeat' split
  all_goals exact ⟨by decide, by decide⟩
theorem evOut_len (e : EV) (nm : List Int) (st : List Int × Bool) : (evOut e nm st).1.length ≤ st.1.length + 8 + 8 * nm.length + e.h.size + e.s.size := by
  have h1 := evFold_len nm (e.setN 0 0, evHead e nm st)
  have h2 := numOut_len (st.1, st.2 || nm.isEmpty || !tickB e.d) e.k 1 (by omega)
  show (evBody e nm st).2.1.length ≤ _
  unfold evBody evHead at *
  simp only [EV.setN] at h1 ⊢
  simp only [] at h2
  omega
theorem encHead_len (seen : Int) (n : Nat) : (encHead seen n).1.length ≤ 16 := by
  have h1 := numOut_len ([], false) seen 2 (by omega)
  have h2 := numOut_len (numOut ([], false) seen 2) n 1 (by omega)
  unfold encHead
  simp only [List.length_nil] at h1
  omega
def rqSum (rs : List RQ) : Nat := (rs.map (fun r => r.h.size + r.s.size)).sum
theorem encFold_len (l : List RQ) (st : List Int × Bool) : (l.foldl encReq st).1.length ≤ st.1.length + 64 * l.length + rqSum l := by
  induction l generalizing st with
  | nil => simp [rqSum]
  | cons r l ih =>
    have h1 := ih (encReq st r)
    have h2 := evOut_len r.ev (hasN r.k false) st
    have h3 := (hasN_in r.k false).2
    have h4 : rqSum (r :: l) = r.h.size + r.s.size + rqSum l := by simp [rqSum]
    have h5 : r.ev.h = r.h := rfl
    have h6 : r.ev.s = r.s := rfl
    rw [h5, h6] at h2
    simp only [List.foldl_cons, List.length_cons]
    unfold encReq at *
    omega
theorem rqSum_take (rs : List RQ) (k : Nat) : rqSum (rs.take k) ≤ rqSum rs := by
  have h := congrArg rqSum (List.take_append_drop k rs)
  unfold rqSum at *
  rw [List.map_append, List.sum_append] at h
  omega
theorem rqSum_at (rs : List RQ) (k : Nat) (hk : k < rs.length) : rqSum (rs.take k) + (rs[k].h.size + rs[k].s.size) ≤ rqSum rs := by
  have h := rqSum_take rs (k + 1)
  rw [List.take_succ_eq_append_getElem hk] at h
  unfold rqSum at *
  simp only [List.map_append, List.sum_append, List.map_cons, List.map_nil, List.sum_cons, List.sum_nil] at h
  omega

theorem own_shapeR {w : World} {e : TypeId} {sz n : Nat} {v : Value} {xs : List Value} (h : w.ownsRow 0 e sz v n xs) : ∃ ao c, v = .slice ao n c ∧ n ≤ c ∧ c ≤ maxLen := by
  rcases h.2 with ⟨rfl, rfl⟩ | ⟨g, cap, cur, rfl, _, _, h1, h2, _⟩
  · exact ⟨none, 0, rfl, Nat.le_refl _, Nat.zero_le _⟩
  · exact ⟨_, cap, rfl, h1, h2⟩
theorem own_bounds {w : World} {e : TypeId} {sz n m c : Nat} {ao : Option Addr} {v : Value} {xs : List Value} (h : w.ownsRow 0 e sz v n xs) (hv : .slice ao m c = v) : m ≤ c ∧ c ≤ maxLen := by
  obtain ⟨ao', c', rfl, h1, h2⟩ := own_shapeR h
  cases hv
  exact ⟨h1, h2⟩
def EncBPost (w : World) (r : List Int × Int) (e : Ending) (w' : World) : Prop := ∃ ao cap, e = .returned (.tuple #[.slice ao r.1.length cap, .int .i64 r.2]) ∧ IntsAt .u8 w' ao r.1 ∧ Below w.heap.size w w' ∧ (∀ a, ao = some a → w.heap.size ≤ a.block) ∧ r.1.length ≤ cap ∧ cap ≤ maxLen

set_option maxRecDepth 100000 in
set_option maxHeartbeats 4000000 in
theorem encodeBatch (seen : Int) (ao : Option Addr) (rs : List RQ) (n cap : Nat) (w : World) (hn : rs.length = n) (h : RqsAt w ao rs) (hsum : rqSum rs ≤ 1000000000) :
    Calls Tryz.prog 59 #[.agg #[.int .i64 seen, .slice ao n cap]] w (EncBPost w (encF seen rs)) := by
  have H := Lib.hid h
  have HN := Lib.hid hn
  have HS := Lib.hid hsum
  by_cases h64 : 64 < n
  · have i64 : (64 : Int) < (n : Int) := by omega
    have HF := Lib.hid (show encF seen rs = ([], 1) by simp [encF, hn, h64])
    clear h hn hsum
    go_enter Tryz.func59, Tryz.ntmps59
    go_wp2
    go_ret2
    rw [HF.out]
    exact ⟨none, 0, rfl, Or.inl rfl, ((Below.refl _ _).alloc (Nat.le_refl _) _).alloc (by simp) _, (fun a ha => by cases ha), Nat.le_refl _, Nat.zero_le _⟩
  · have i64 : ¬ (64 : Int) < (n : Int) := by omega
    have HF := Lib.hid (show encF seen rs = outEnd (encSt seen rs) by simp [encF, hn, h64])
    have HST := Lib.hid (show encSt seen rs = rs.foldl encReq (numOut (numOut ([], false) seen 2) n 1) by rw [encSt, encHead, hn])
    have HHL := Lib.hid (encHead_len seen n)
    have HH1 := Lib.hid (numOut_len ([], false) seen 2 (by omega))
    obtain ⟨w2, hw2⟩ : ∃ w2, w2 = (w.alloc (.cells #[.int .i64 seen, .slice ao n cap] 41)).alloc (.cells #[.slice none 0 0, .bool false] 147) := ⟨_, rfl⟩
    have HB2 : Hid (Below w.heap.size w w2) := Lib.hid (by subst hw2; exact ((Below.refl _ _).alloc (Nat.le_refl _) _).alloc (by simp) _)
    have HO2 : Hid (BufAt 147 w2 (w.heap.size + 1) (.slice none 0 0) [] (.bool false)) := Lib.hid (by
      subst hw2
      have := buf_new (w.alloc (.cells #[.int .i64 seen, .slice ao n cap] 41)) 147 (.bool false)
      simpa using this)
    have HX2 : Hid (w2.heap[w.heap.size]? = some (.cells #[.int .i64 seen, .slice ao n cap] 41 (0, 0))) := Lib.hid (by
      subst hw2
      exact (Below.heap_alloc _ _ _ (by simp)).trans (heap_alloc_new w _))
    have HW2 := Lib.hid hw2
    clear h hn hsum hw2
    go_enter Tryz.func59, Tryz.ntmps59
    go_wp2_with fail
    rw [← HW2.out]
    refine (out_num _ _ _ _ seen 2 w2 HO2.out (by simp)).mono ?_
    rintro en w3 ⟨rfl, v3, hb3, hk3, hf3⟩
    have HBA3 := Lib.hid hb3
    have HB3 := Lib.hid (HB2.out.trans (hk3.below (B := w.heap.size) HB2.out.size (fun k hk => by rcases hk with rfl | hk; omega; cases hk)))
    have HF3 : Hid (∀ g, v3.ownBlock = some g → w.heap.size < g) := Lib.hid (fun g hg => by
      rcases hf3 g hg with h | h
      · cases h
      · have h1 := blk_lt HO2.out.1; omega)
    have hx3 := (hk3.block w.heap.size (blk_lt HX2.out) (fun hk => by rcases hk with hk | hk; omega; cases hk)).trans HX2.out
    have HX3 := Lib.hid hx3
    have c0 := blk_cell hx3 0
    have c1 := blk_cell hx3 1
    simp only [List.getElem?_toArray, List.getElem?_cons_zero, List.getElem?_cons_succ] at c0 c1
    clear hb3 hk3 hf3 hx3
    go_wp2_with fail
    refine (out_num _ _ _ _ n 1 w3 HBA3.out (by have := HH1.out; simp at this; omega)).mono ?_
    rintro en w4 ⟨rfl, v4, hb4, hk4, hf4⟩
    have HBA4 := Lib.hid hb4
    have HFP3 : Hid (∀ k, fpE (w.heap.size + 1) v3 k → w.heap.size < k) := Lib.hid (fun k hk => by rcases hk with rfl | hk; omega; exact HF3.out k hk)
    have HB4 := Lib.hid (HB3.out.trans (hk4.below (B := w.heap.size) HB3.out.size (fun k hk => by have := HFP3.out k hk; omega)))
    have HF4 : Hid (∀ g, v4.ownBlock = some g → w.heap.size < g) := Lib.hid (fun g hg => by
      rcases hf4 g hg with h | h
      · exact HF3.out g h
      · have h1 := blk_lt HX3.out; omega)
    have hx4 := (hk4.block w.heap.size (blk_lt HX3.out) (fun hk => by have := HFP3.out _ hk; omega)).trans HX3.out
    have d0 := blk_cell hx4 0
    have d1 := blk_cell hx4 1
    simp only [List.getElem?_toArray, List.getElem?_cons_zero, List.getElem?_cons_succ] at d0 d1
    have HX4 := Lib.hid hx4
    clear hb4 hk4 hf4 hx4 c0 c1
    go_wp2_with fail
    have HL0 : Hid ((numOut (numOut ([], false) seen 2) (n : Int) 1).1.length ≤ 16) := Lib.hid HHL.out
    generalize numOut (numOut ([], false) seen 2) (n : Int) 1 = st0 at *
    go_loopw [21] (fun i wr => ∃ k v', k ≤ n ∧ i = .int .i64 (k : Nat) ∧ BufAt 147 wr (w.heap.size + 1) v' ((rs.take k).foldl encReq st0).1 (.bool ((rs.take k).foldl encReq st0).2) ∧ Below w.heap.size w wr ∧ (∀ g, v'.ownBlock = some g → w.heap.size < g)) (fun i _ => n + 1 - (intOf i + 1).toNat)
    case atStart => exact ⟨0, v4, Nat.zero_le _, rfl, HBA4.out, HB4.out, HF4.out⟩
    case round =>
      obtain ⟨k, v', hk, rfl, hba, hbel, hfr⟩ := hrel
      have HBA := Lib.hid hba
      have HBE := Lib.hid hbel
      have HFR := Lib.hid hfr
      clear hba hbel hfr
      by_cases hlt : k < n
      · have hkb : k < rs.length := by rw [HN.out]; exact hlt
        obtain ⟨rb, roff, rfl, hat⟩ := rq_cells (H.out.below HBE.out) k hkb
        have HSNOC : Hid ((rs.take (k + 1)).foldl encReq st0 = encReq ((rs.take k).foldl encReq st0) rs[k]) := Lib.hid (by rw [List.take_succ_eq_append_getElem hkb, List.foldl_append]; rfl)
        have HLEN : Hid (((rs.take k).foldl encReq st0).1.length + 100 + rs[k].h.size + rs[k].s.size ≤ 2000000000) := Lib.hid (by
          have h1 := encFold_len (rs.take k) st0
          have h2 := rqSum_at rs k hkb
          have h3 : (rs.take k).length ≤ 64 := by simp; omega
          have := HL0.out
          have := HS.out
          omega)
        generalize (rs.take k).foldl encReq st0 = st at *
        generalize rs[k] = r at *
        obtain ⟨c0, c1, c2, c3, c4, c5, c6, c7⟩ := hat.all
        clear hat
        have j0 : (0 : Int) ≤ (k : Int) := by omega
        have j1 : (k : Int) < (n : Int) := by omega
        go_wp2_with fail
        obtain ⟨wA, hwA⟩ : ∃ wA, wA = wr.alloc (.cells #[.int .i64 r.k, .int .i64 r.t, .int .i64 r.a, .int .i64 r.n, .int .i64 r.i, .int .i64 r.d, .string r.h, .string r.s] 52) := ⟨_, rfl⟩
        rw [← hwA]
        have hbl : wA.heap[wr.heap.size]? = some (.cells r.cells 52 (0, 0)) := by subst hwA; exact heap_alloc_new wr _
        have hbw : Below w.heap.size w wA := by subst hwA; exact HBE.out.alloc HBE.out.size _
        have hba : BufAt 147 wA (w.heap.size + 1) v' st.1 (.bool st.2) := by subst hwA; exact HBA.out.below ((Below.refl _ _).alloc (Nat.le_refl _) _)
        have hsz : w.heap.size < wr.heap.size := by have := blk_lt HBA.out.1; omega
        have hnf : ¬ fpE (w.heap.size + 1) v' wr.heap.size := fun hf => by
          have h1 := HBA.out.lt _ hf
          omega
        have HBA2 := Lib.hid hba
        have HBW := Lib.hid hbw
        have HNF := Lib.hid hnf
        have HCD : Hid (∀ w', Keeps (fpE (w.heap.size + 1) v') wA.drew w' → (w'.cell? ⟨wr.heap.size, 0, none⟩ = some (.int .i64 r.k) ∧ w'.cell? ⟨wr.heap.size, 1, none⟩ = some (.int .i64 r.t) ∧ w'.cell? ⟨wr.heap.size, 2, none⟩ = some (.int .i64 r.a) ∧ w'.cell? ⟨wr.heap.size, 3, none⟩ = some (.int .i64 r.n) ∧ w'.cell? ⟨wr.heap.size, 4, none⟩ = some (.int .i64 r.i) ∧ w'.cell? ⟨wr.heap.size, 5, none⟩ = some (.int .i64 r.d) ∧ w'.cell? ⟨wr.heap.size, 6, none⟩ = some (.string r.h) ∧ w'.cell? ⟨wr.heap.size, 7, none⟩ = some (.string r.s))) := Lib.hid (fun w' hk' => by
          have hb' : w'.heap[wr.heap.size]? = some (.cells r.cells 52 (0, 0)) := (hk'.block _ (blk_lt hbl) hnf).trans hbl
          refine ⟨?_, ?_, ?_, ?_, ?_, ?_, ?_, ?_⟩
          all_goals
            rw [blk_cell hb']; rfl)
        have HEV := Lib.hid (fun w1 => req_event r w1)
        unfold RQ.cells at HEV
        clear hwA hbl hbw hba hnf c0 c1 c2 c3 c4 c5 c6 c7
        obtain ⟨hn1, hn2⟩ := hasN_in r.k false
        have HN1 := Lib.hid hn1
        have HN2 := Lib.hid hn2
        clear hn1 hn2
        obtain ⟨z0, z1, z2, z3, z4, z5, z6, z7⟩ := HCD.out wA.drew (Keeps.refl _ _)
        go_wp2_with fail
        go_region_held3 (fun w' => w'.cell? ⟨wr.heap.size, 0, none⟩ = some (.int .i64 r.k) ∧ w'.cell? ⟨wr.heap.size, 1, none⟩ = some (.int .i64 r.t) ∧ w'.cell? ⟨wr.heap.size, 2, none⟩ = some (.int .i64 r.a) ∧ w'.cell? ⟨wr.heap.size, 3, none⟩ = some (.int .i64 r.n) ∧ w'.cell? ⟨wr.heap.size, 4, none⟩ = some (.int .i64 r.i) ∧ w'.cell? ⟨wr.heap.size, 5, none⟩ = some (.int .i64 r.d) ∧ w'.cell? ⟨wr.heap.size, 6, none⟩ = some (.string r.h) ∧ w'.cell? ⟨wr.heap.size, 7, none⟩ = some (.string r.s))
          (first | go_keep | exact HCD.out _ hk5 | exact HCD.out _ (hk5.trans hk6 (fun _ h => Or.inl h)))
          ((first
            | (go_at_call 96; refine (HEV.out _).mono ?_; rintro en w5 ⟨rfl, hb5⟩; have hk5 : Keeps (fpE (w.heap.size + 1) v') wA.drew w5 := Keeps.of_below hb5; have HB5 := Lib.hid hb5)
            | (go_at_call 72; refine (has_any r.k false _).mono ?_; rintro en w6 ⟨rfl, rfl⟩)
            | (go_at_call 71; refine (out_event (w.heap.size + 1) v' st.1 st.2 r.ev (hasN r.k false) _ ((HBA2.out.keep (Keeps.refl (fun _ => False) wA).drew (fun _ _ f => f)).below HB5.out) HN1.out (by have h1 : r.ev.h.size = r.h.size := rfl; have h2 : r.ev.s.size = r.s.size := rfl; have := HLEN.out; have := HN2.out; omega)).mono ?_; rintro en w6 ⟨rfl, v6, hb6, hk6, hf6⟩)))
        have HB6 := Lib.hid hb6
        have HBE6 : Hid (Below w.heap.size w w6) := Lib.hid (by
          have h5 : Below w.heap.size w w5 := HBW.out.trans (((Keeps.refl (fun _ => False) wA).drew.below (B := w.heap.size) HBW.out.size (fun _ f => f.elim)).trans (HB5.out.mono (by have := HBW.out.size; simpa using this)))
          exact h5.trans (hk6.below h5.size (fun i hi => by rcases hi with rfl | hi; omega; have := HFR.out i hi; omega)))
        have HF6 : Hid (∀ g, v6.ownBlock = some g → w.heap.size < g) := Lib.hid (fun g hg => by
          rcases hf6 g hg with h | h
          · exact HFR.out g h
          · have h1 := HB5.out.size
            have h2 := blk_lt HBA2.out.1
            simp at h1
            omega)
        clear hb5 hk5 hb6 hk6 hf6
        go_wp2
        go_roundw
        case rel => exact ⟨k + 1, v6, by omega, by go_num, by rw [HSNOC.out]; exact HB6.out, HBE6.out, HF6.out⟩
        case measure => simp [intOf]; omega
      · obtain rfl : k = n := by omega
        have HTK : Hid (encF seen rs = outEnd (((rs.take k).foldl encReq st0).1, ((rs.take k).foldl encReq st0).2)) := Lib.hid (by
          rw [HF.out, HST.out, List.take_of_length_le (by rw [HN.out]; exact Nat.le_refl _)])
        generalize (rs.take k).foldl encReq st0 = st at *
        have HOW := Lib.hid HBA.out.2.1
        clear hlt
        go_wp2_with fail
        refine (out_done _ v' st.1 st.2 _ HBA.out).mono ?_
        rintro en w5 ⟨⟨ao5, cap5, rfl, hv5⟩, rfl⟩
        have HV := Lib.hid hv5
        clear hv5
        go_wp2
        go_ret2
        rw [HTK.out]
        refine ⟨ao5, cap5, rfl, ?_, HBE.out, fun a ha => ?_, ?_⟩
        · rcases HV.out with h | ⟨h, _⟩
          · subst h
            unfold outEnd at *
            split at HOW
            · rename_i hb; rw [if_pos hb]; exact Or.inl rfl
            · rename_i hb; rw [if_neg hb]; exact (owns_at HOW.out).2.1
          · exact Or.inl h
        · rcases HV.out with h | ⟨_, h, _⟩
          · have := HFR.out a.block (by rw [← h, ha]; rfl)
            omega
          · rw [h] at ha; cases ha
        · rcases HV.out with h | ⟨h, _, h2⟩
          · exact own_bounds HOW.out h
          · rw [h, h2]; exact ⟨Nat.le_refl _, Nat.zero_le _⟩


end Go.Proofs.YtkaciaehlibidaaGreat
