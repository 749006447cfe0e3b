/- Contract of req.EncodeAnswer. -/
import Derived.Test.YtkaciaehlibidaaGreatReq4
namespace Go.Proofs.YtkaciaehlibidaaGreat
open Go.RowKit
set_option linter.unusedVariables false

instance : Inhabited EV := ⟨⟨0, 0, 0, 0, 0, 0, 0, ⟨#[]⟩, ⟨#[]⟩⟩⟩
def EV.at_ (r : EV) (w : World) (b o : Nat) : Prop := ∀ j v, r.cells[j]? = some v → w.cell? ⟨b, o + j, none⟩ = some v
theorem EV.at_.all {r : EV} {w : World} {b o : Nat} (h : r.at_ w b o) : w.cell? ⟨b, o, none⟩ = some (.int .i64 r.k) ∧ w.cell? ⟨b, o + 1, none⟩ = some (.int .i64 r.f) ∧ w.cell? ⟨b, o + 2, none⟩ = some (.int .i64 r.t) ∧ w.cell? ⟨b, o + 3, none⟩ = some (.int .i64 r.a) ∧ w.cell? ⟨b, o + 4, none⟩ = some (.int .i64 r.n) ∧
    w.cell? ⟨b, o + 5, none⟩ = some (.int .i64 r.i) ∧ w.cell? ⟨b, o + 6, none⟩ = some (.int .i64 r.d) ∧ w.cell? ⟨b, o + 7, none⟩ = some (.string r.h) ∧ w.cell? ⟨b, o + 8, none⟩ = some (.string r.s) :=
  ⟨h 0 _ rfl, h 1 _ rfl, h 2 _ rfl, h 3 _ rfl, h 4 _ rfl, h 5 _ rfl, h 6 _ rfl, h 7 _ rfl, h 8 _ rfl⟩
theorem EV.at_.below {w w' : World} {b o : Nat} {r : EV} (h : r.at_ w b o) (hb : Below w.heap.size w w') : r.at_ w' b o := fun j v hv => by
  have h1 := h j v hv
  rw [hb.cell (World.block_lt_of_cell? w _ h1)]; exact h1
def EvsAt (w : World) (ao : Option Addr) (rs : List EV) : Prop := rs = [] ∨ ∃ b off, ao = some ⟨b, off, none⟩ ∧ ∀ i (h : i < rs.length), rs[i].at_ w b (off + i * 9)
theorem EvsAt.below {w w' : World} {ao : Option Addr} {rs : List EV} (h : EvsAt w ao rs) (hb : Below w.heap.size w w') : EvsAt w' ao rs := by
  rcases h with h | ⟨b, off, h1, h2⟩
  · exact Or.inl h
  · exact Or.inr ⟨b, off, h1, fun i hi => (h2 i hi).below hb⟩
theorem ev_cells {w : World} {ao : Option Addr} {rs : List EV} (h : EvsAt w ao rs) (i : Nat) (hi : i < rs.length) : ∃ b off, ao = some ⟨b, off, none⟩ ∧ rs[i].at_ w b (off + i * 9) := by
  rcases h with h | ⟨b, off, h1, h2⟩
  · rw [h] at hi; simp at hi
  · exact ⟨b, off, h1, h2 i hi⟩
def RepsAt (w : World) (ao : Option Addr) (rs : List (Int × Int)) : Prop := rs = [] ∨ ∃ b off, ao = some ⟨b, off, none⟩ ∧ ∀ i (h : i < rs.length), w.cell? ⟨b, off + i * 2, none⟩ = some (.int .i64 rs[i].1) ∧ w.cell? ⟨b, off + i * 2 + 1, none⟩ = some (.int .i64 rs[i].2)
theorem RepsAt.below {w w' : World} {ao : Option Addr} {rs : List (Int × Int)} (h : RepsAt w ao rs) (hb : Below w.heap.size w w') : RepsAt w' ao rs := by
  rcases h with h | ⟨b, off, h1, h2⟩
  · exact Or.inl h
  · refine Or.inr ⟨b, off, h1, fun i hi => ?_⟩
    obtain ⟨c0, c1⟩ := h2 i hi
    exact ⟨by rw [hb.cell (World.block_lt_of_cell? w _ c0)]; exact c0, by rw [hb.cell (World.block_lt_of_cell? w _ c1)]; exact c1⟩
theorem rep_cells {w : World} {ao : Option Addr} {rs : List (Int × Int)} (h : RepsAt w ao rs) (i : Nat) (hi : i < rs.length) : ∃ b off, ao = some ⟨b, off, none⟩ ∧ w.cell? ⟨b, off + i * 2, none⟩ = some (.int .i64 rs[i].1) ∧ w.cell? ⟨b, off + i * 2 + 1, none⟩ = some (.int .i64 rs[i].2) := by
  rcases h with h | ⟨b, off, h1, h2⟩
  · rw [h] at hi; simp at hi
  · exact ⟨b, off, h1, h2 i hi⟩

def encRep (st : List Int × Bool) (r : Int × Int) : List Int × Bool := numOut (numOut st r.1 1) r.2 2
def encEv (st : List Int × Bool) (e : EV) : List Int × Bool := evOut e (hasN e.k true) st
def ansHead (clock seen : Int) (n : Nat) : List Int × Bool := numOut (numOut (numOut ([], false) clock 8) seen 2) n 1
def ansSt (clock seen : Int) (rs : List (Int × Int)) (es : List EV) : List Int × Bool := es.foldl encEv (numOut (rs.foldl encRep (ansHead clock seen rs.length)) es.length 2)
def ansOK (clock : Int) (n m : Nat) : Bool := tickB clock && decide (n ≤ 64) && decide (m ≤ 400)
def ansF (clock seen : Int) (rs : List (Int × Int)) (es : List EV) : List Int × Int := if ansOK clock rs.length es.length = true then outEnd (ansSt clock seen rs es) else ([], 1)

def evSum (rs : List EV) : Nat := (rs.map (fun r => r.h.size + r.s.size)).sum
theorem evsFold_len (l : List EV) (st : List Int × Bool) : (l.foldl encEv st).1.length ≤ st.1.length + 64 * l.length + evSum l := by
  induction l generalizing st with
  | nil => simp [evSum]
  | cons r l ih =>
    have h1 := ih (encEv st r)
    have h2 := evOut_len r (hasN r.k true) st
    have h3 := (hasN_in r.k true).2
    have h4 : evSum (r :: l) = r.h.size + r.s.size + evSum l := by simp [evSum]
    simp only [List.foldl_cons, List.length_cons]
    unfold encEv at *
    omega
theorem evSum_take (rs : List EV) (k : Nat) : evSum (rs.take k) ≤ evSum rs := by
  have h := congrArg evSum (List.take_append_drop k rs)
  unfold evSum at *
  rw [List.map_append, List.sum_append] at h
  omega
theorem evSum_at (rs : List EV) (k : Nat) (hk : k < rs.length) : evSum (rs.take k) + (rs[k].h.size + rs[k].s.size) ≤ evSum rs := by
  have h := evSum_take rs (k + 1)
  rw [List.take_succ_eq_append_getElem hk] at h
  unfold evSum at *
  simp only [List.map_append, List.sum_append, List.map_cons, List.map_nil, List.sum_cons, List.sum_nil] at h
  omega
theorem repFold_len (l : List (Int × Int)) (st : List Int × Bool) : (l.foldl encRep st).1.length ≤ st.1.length + 16 * l.length := by
  induction l generalizing st with
  | nil => simp
  | cons r l ih =>
    have h1 := ih (encRep st r)
    have h2 := numOut_len st r.1 1 (by omega)
    have h3 := numOut_len (numOut st r.1 1) r.2 2 (by omega)
    simp only [List.foldl_cons, List.length_cons]
    unfold encRep at *
    omega
theorem ansHead_len (clock seen : Int) (n : Nat) : (ansHead clock seen n).1.length ≤ 24 := by
  have h1 := numOut_len ([], false) clock 8 (by omega)
  have h2 := numOut_len (numOut ([], false) clock 8) seen 2 (by omega)
  have h3 := numOut_len (numOut (numOut ([], false) clock 8) seen 2) n 1 (by omega)
  unfold ansHead
  simp only [List.length_nil] at h1
  omega

/-- A buffer of the call's own: nothing that was there before w0 is touched. -/
def OutAt (w0 w : World) (p : Nat) (v : Value) (st : List Int × Bool) : Prop :=
  BufAt 147 w p v st.1 (.bool st.2) ∧ Below w0.heap.size w0 w ∧ w0.heap.size < p ∧ (∀ g, v.ownBlock = some g → w0.heap.size < g) ∧ w0.heap.size < w.heap.size
theorem OutAt.post {w0 w w' : World} {p : Nat} {v : Value} {st st' : List Int × Bool} (h : OutAt w0 w p v st) (hp : BufPost 147 w p v st'.1 (.bool st'.2) w') : ∃ v', OutAt w0 w' p v' st' ∧ Keeps (fpE p v) w w' := by
  obtain ⟨h1, h2, h3, h4, h5⟩ := h
  obtain ⟨v', a1, a2, a3⟩ := hp
  have hs := a2.size
  refine ⟨v', ⟨a1, h2.trans (a2.below h2.size (fun k hk => by rcases hk with rfl | hk; omega; have := h4 k hk; omega)), h3, fun g hg => ?_, by omega⟩, a2⟩
  rcases a3 g hg with e | e
  · exact h4 g e
  · omega
theorem OutAt.below {w0 w w' : World} {p : Nat} {v : Value} {st : List Int × Bool} (h : OutAt w0 w p v st) (hb : Below w.heap.size w w') : OutAt w0 w' p v st :=
  ⟨h.1.below hb, h.2.1.trans (hb.mono h.2.1.size), h.2.2.1, h.2.2.2.1, Nat.lt_of_lt_of_le h.2.2.2.2 hb.size⟩
theorem OutAt.num {w0 w : World} {p : Nat} {v : Value} {st : List Int × Bool} (h : OutAt w0 w p v st) (n size : Int) (hl : st.1.length + 8 ≤ 140737488355328) :
    Calls Tryz.prog 95 #[.pointer (some ⟨p, 0, none⟩), .int .i64 n, .int .i64 size] w fun en w' => en = .returned (.tuple #[]) ∧ ∃ v', OutAt w0 w' p v' (numOut st n size) ∧ Keeps (fpE p v) w w' :=
  (out_num p v st.1 st.2 n size w h.1 hl).mono fun _ _ ⟨a, b⟩ => ⟨a, h.post b⟩
/-- What the buffer's call keeps of the head w0. -/
theorem OutAt.head {w0 w w' : World} {p : Nat} {v : Value} {st : List Int × Bool} (h : OutAt w0 w p v st) (hk : Keeps (fpE p v) w w') {o : Obj} (ho : w.heap[w0.heap.size]? = some o) : w'.heap[w0.heap.size]? = some o :=
  (hk.block _ (blk_lt ho) (fun hf => by rcases hf with hf | hf; have := h.2.2.1; omega; have := h.2.2.2.1 _ hf; omega)).trans ho

theorem outEnd_post {w0 w : World} {p : Nat} {v : Value} {st : List Int × Bool} (h : OutAt w0 w p v st) (ao : Option Addr) (cap : Nat) (hv : .slice ao (outEnd st).1.length cap = v ∨ (outEnd st).1 = [] ∧ ao = none ∧ cap = 0) : EncBPost w0 (outEnd st) (.returned (.tuple #[.slice ao (outEnd st).1.length cap, .int .i64 (outEnd st).2])) w := by
  obtain ⟨h1, h2, h3, h4, h5⟩ := h
  refine ⟨ao, cap, rfl, ?_, h2, fun a ha => ?_, ?_⟩
  · rcases hv with hv | ⟨hv, _⟩
    · subst hv
      have ho := h1.2.1
      unfold outEnd at *
      split at ho
      · rename_i hb; rw [if_pos hb]; exact Or.inl rfl
      · rename_i hb; rw [if_neg hb]; exact (owns_at ho).2.1
    · exact Or.inl hv
  · rcases hv with hv | ⟨_, hv, _⟩
    · have := h4 a.block (by rw [← hv, ha]; rfl)
      omega
    · rw [hv] at ha; cases ha
  · rcases hv with hv | ⟨hv, _, h2⟩
    · exact own_bounds h1.2.1 hv
    · rw [hv, h2]; exact ⟨Nat.le_refl _, Nat.zero_le _⟩


end Go.Proofs.YtkaciaehlibidaaGreat
