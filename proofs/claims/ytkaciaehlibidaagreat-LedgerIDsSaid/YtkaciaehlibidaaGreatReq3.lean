/- Contract of out.event: an event laid. -/
import Derived.Test.YtkaciaehlibidaaGreatLgH
import Derived.Deep.LoopGhost
namespace Go.Proofs.YtkaciaehlibidaaGreat
open Go.RowKit
set_option linter.unusedVariables false

def stepEv (r : EV × List Int × Bool) (c : Int) : EV × List Int × Bool :=
  match numSign c with
  | some (j, z) => (r.1.setN 0 j, numOut r.2 (r.1.num j) z)
  | none => (r.1.setT ⟨#[]⟩ (txtSign c), (r.2.1 ++ strNums (r.1.txt (txtSign c)), r.2.2 || (((r.1.txt (txtSign c)).size : Int) != 32)))
def EV.zero (e : EV) : Bool := decide (e.k = 0 ∧ e.f = 0 ∧ e.t = 0 ∧ e.a = 0 ∧ e.n = 0 ∧ e.i = 0 ∧ e.d = 0) && (e.h.toList.isEmpty && e.s.toList.isEmpty)
def evHead (e : EV) (nm : List Int) (st : List Int × Bool) : List Int × Bool := numOut (st.1, st.2 || nm.isEmpty || !tickB e.d) e.k 1
def evBody (e : EV) (nm : List Int) (st : List Int × Bool) : EV × List Int × Bool := nm.foldl stepEv (e.setN 0 0, evHead e nm st)
def evOut (e : EV) (nm : List Int) (st : List Int × Bool) : List Int × Bool := ((evBody e nm st).2.1, (evBody e nm st).2.2 || !(evBody e nm st).1.zero)

theorem bytesOf_size (nm : List Int) : (bytesOf nm).size = nm.length := by
  show ((nm.map fun z => UInt8.ofNat z.toNat).toArray).size = nm.length
  simp
theorem bytesOf_get (nm : List Int) (hn : ∀ c ∈ nm, 0 ≤ c ∧ c < 128) (k : Nat) (hk : k < (bytesOf nm).size) : (((bytesOf nm)[k]'hk).toNat : Int) = nm[k]'(by rw [bytesOf_size] at hk; exact hk) := by
  have hk' : k < nm.length := by rw [bytesOf_size] at hk; exact hk
  have e : (bytesOf nm)[k]'hk = UInt8.ofNat (nm[k].toNat) := by
    have h2 : k < (bytesOf nm).data.size := by simpa [bytesOf] using hk'
    have e1 : (bytesOf nm)[k]'hk = (bytesOf nm).data[k]'h2 := rfl
    rw [e1]
    simp [bytesOf]
  have := hn nm[k] (List.getElem_mem hk')
  rw [e, UInt8.toNat_ofNat']
  omega

/-- An event that is being laid: the buffer p, the rest R, the iterator q at the k-th sign. -/
structure EvAt (w0 wr : World) (p : Nat) (v v' : Value) (R q : Nat) (nm : List Int) (k : Nat) (st : EV × List Int × Bool) : Prop where
  buf : BufAt 147 wr p v' st.2.1 (.bool st.2.2)
  rest : wr.heap[R]? = some (.cells st.1.cells 55 (0, 0))
  iter : wr.heap[q]? = some (.stringIter (bytesOf nm) k)
  keep : Keeps (fpE p v) w0 wr
  fresh : ∀ g, v'.ownBlock = some g → v.ownBlock = some g ∨ w0.heap.size ≤ g
  pR : p ≠ R
  bR : w0.heap.size ≤ R
  bq : w0.heap.size ≤ q
theorem own_type {w : World} {base : Nat} {e : TypeId} {v : Value} {n : Nat} {xs : List Value} (h : w.ownsRow base e 1 v n xs) {g : Nat} (hg : v.ownBlock = some g) : ∃ cs, w.heap[g]? = some (.cells cs e (0, 0)) := by
  rcases h.2 with ⟨rfl, _⟩ | ⟨g', cap, cur, rfl, _, hh, _⟩
  · cases hg
  · simp only [Value.ownBlock, Option.some.injEq] at hg
    subst hg
    exact ⟨cur, hh⟩
section
variable {w0 wr w' : World} {p : Nat} {v v' : Value} {R q : Nat} {nm : List Int} {k : Nat} {st : EV × List Int × Bool}
theorem EvAt.far (h : EvAt w0 wr p v v' R q nm k st) : R ≠ q ∧ p ≠ q ∧ v'.ownBlock ≠ some R ∧ v'.ownBlock ≠ some q := by
  refine ⟨fun e => ?_, fun e => ?_, fun e => ?_, fun e => ?_⟩
  · have h1 := h.rest; rw [e, h.iter] at h1; cases h1
  · have h1 := h.buf.1; rw [e, h.iter] at h1; cases h1
  · obtain ⟨cs, h1⟩ := own_type h.buf.2.1 e
    rw [h.rest] at h1
    simp at h1
  · obtain ⟨cs, h1⟩ := own_type h.buf.2.1 e
    rw [h.iter] at h1; cases h1
theorem EvAt.next (h : EvAt w0 wr p v v' R q nm k st) (hi : w'.heap[q]? = some (.stringIter (bytesOf nm) (k + 1))) (hk : Keeps (fun i => i = q) wr w') : EvAt w0 w' p v v' R q nm (k + 1) st := by
  obtain ⟨f1, f2, f3, f4⟩ := h.far
  refine ⟨h.buf.keep hk (fun i hfp e => ?_), (hk.block R (blk_lt h.rest) f1).trans h.rest, hi, h.keep.trans hk (fun i hi => Or.inr (by subst hi; exact h.bq)), h.fresh, h.pR, h.bR, h.bq⟩
  rcases hfp with hfp | hfp
  · exact f2 (hfp.symm.trans e)
  · exact f4 (hfp.trans (by rw [e]))
theorem EvAt.buffer (h : EvAt w0 wr p v v' R q nm k st) {bs : List Int} {bad : Bool} (hp : BufPost 147 wr p v' bs (.bool bad) w') : ∃ v2, EvAt w0 w' p v v2 R q nm k (st.1, bs, bad) := by
  obtain ⟨v2, h1, h2, h3⟩ := hp
  obtain ⟨f1, f2, f3, f4⟩ := h.far
  have hf : ∀ i, fpE p v' i → fpE p v i ∨ w0.heap.size ≤ i := fun i hi => by
    rcases hi with rfl | hi
    · exact Or.inl (Or.inl rfl)
    · exact (h.fresh i hi).imp (fun e => Or.inr e) id
  refine ⟨v2, h1, (h2.block R (blk_lt h.rest) (fun e => ?_)).trans h.rest, (h2.block q (blk_lt h.iter) (fun e => ?_)).trans h.iter, h.keep.trans h2 hf, fun g hg => ?_, h.pR, h.bR, h.bq⟩
  · rcases e with e | e
    · exact h.pR e.symm
    · exact f3 e
  · rcases e with e | e
    · exact f2 e.symm
    · exact f4 e
  · rcases h3 g hg with e | e
    · exact h.fresh g e
    · exact Or.inr (Nat.le_trans h.keep.size e)
theorem EvAt.setR (h : EvAt w0 wr p v v' R q nm k st) (j : Nat) (u : Value) (e' : EV) (he : st.1.cells.setIfInBounds j u = e'.cells) : EvAt w0 (wr.setCell ⟨R, j, none⟩ u) p v v' R q nm k (e', st.2) := by
  obtain ⟨f1, f2, f3, f4⟩ := h.far
  have hk : Keeps (fun i => i = R) wr (wr.setCell ⟨R, j, none⟩ u) := (Keeps.refl (fun i => i = R) wr).setCell (p := ⟨R, j, none⟩) (Or.inl rfl) u
  refine ⟨h.buf.keep hk (fun i hi e => ?_), by rw [← he]; exact blk_set h.rest j u, (hk.block q (blk_lt h.iter) (Ne.symm f1)).trans h.iter, h.keep.trans hk (fun i hi => Or.inr (by subst hi; exact h.bR)), h.fresh, h.pR, h.bR, h.bq⟩
  subst e
  rcases hi with hi | hi
  · exact h.pR hi.symm
  · exact f3 hi
theorem EvAt.done (h : EvAt w0 wr p v v' R q nm k st) : BufPost 147 w0 p v st.2.1 (.bool st.2.2) wr := ⟨v', h.buf, h.keep, h.fresh⟩
theorem EvAt.cellR (h : EvAt w0 wr p v v' R q nm k st) (j : Nat) : wr.cell? ⟨R, j, none⟩ = st.1.cells[j]? ∧ wr.frozen? ⟨R, j, none⟩ = false := ⟨blk_cell h.rest j, blk_frozen h.rest j⟩
theorem ev_start {w w1 : World} {p : Nat} {v : Value} {bs : List Int} {bad X : Bool} {e : EV} (h : BufAt 147 w p v bs (.bool bad)) (hw : w1 = (w.setCell ⟨p, 1, none⟩ (.bool X)).alloc (.cells e.cells 55)) :
    BufAt 147 w1 p v bs (.bool X) ∧ w1.heap[w.heap.size]? = some (.cells e.cells 55 (0, 0)) ∧ Keeps (fpE p v) w w1 := by
  subst hw
  obtain ⟨hp, hown, hne⟩ := h
  have hb := buf_set ⟨hp, hown, hne⟩ (.bool X)
  have e1 : (w.setCell ⟨p, 1, none⟩ (.bool X)).heap.size = w.heap.size := by simp [World.setCell]
  have hpl := blk_lt hp
  refine ⟨?_, by rw [← e1]; exact heap_alloc_new _ _, ?_⟩
  · refine BufAt.below ⟨by simpa using blk_set hp 1 (.bool X), ownsRow_same hown (fun g hg => Below.heap_setCell _ _ _ _ (fun e => hne (by rw [hg, e]))), hne⟩ ((Below.refl _ _).alloc (Nat.le_refl _) _)
  · exact ((Keeps.refl (fpE p v) w).setCell (p := ⟨p, 1, none⟩) (Or.inl (Or.inl rfl)) _).alloc _
end
theorem ev_close {w0 wr : World} {p : Nat} {v v' : Value} {R q : Nat} {nm nm' : List Int} {k : Nat} {e e' : EV} {bs bs' : List Int} {bad bad' : Bool} (h : EvAt w0 wr p v v' R q nm k (e', bs', bad')) (hf : evOut e nm' (bs, bad) = (bs', bad' || !e'.zero)) (B : Bool) (hB : B = (bad' || !e'.zero)) :
    BufPost 147 w0 p v (evOut e nm' (bs, bad)).1 (.bool (evOut e nm' (bs, bad)).2) (wr.setCell ⟨p, 1, none⟩ (.bool B)) := by
  rw [hf, hB]
  obtain ⟨v2, h2⟩ := h.buffer (buf_set h.buf (.bool (bad' || !e'.zero)))
  exact h2.done
theorem ev_loop0 {w w2 w4 : World} {p : Nat} {v v2 : Value} {bs : List Int} {bad : Bool} {e : EV} {nm : List Int} (hb : BufAt 147 w2 p v2 bs (.bool bad)) (hk : Keeps (fpE p v) w w2) (hf : ∀ g, v2.ownBlock = some g → v.ownBlock = some g ∨ w.heap.size ≤ g)
    (hw : w4 = (w2.alloc (.cells e.cells 55)).iter (bytesOf nm) 0) : EvAt w w4 p v v2 w2.heap.size (w2.heap.size + 1) nm 0 (e, bs, bad) := by
  have hs := hk.size
  have hpl := blk_lt hb.1
  have e1 : (w2.alloc (.cells e.cells 55)).heap.size = w2.heap.size + 1 := by simp
  have h24 : Below w2.heap.size w2 w4 := by subst hw; exact ((Below.refl _ _).alloc (Nat.le_refl _) _).alloc (by omega) _
  refine ⟨hb.below h24, ?_, ?_, hk.trans (Keeps.of_below (S := fun _ => False) h24) (fun _ f => f.elim), hf, by omega, hs, by omega⟩
  · subst hw; exact (Below.heap_alloc _ _ _ (by omega)).trans (heap_alloc_new w2 _)
  · subst hw; rw [← e1]; exact World.iter_heap _ _ _
theorem numOut_len (st : List Int × Bool) (n size : Int) (h : size ≤ 8) : (numOut st n size).1.length ≤ st.1.length + 8 := by
  unfold numOut
  split
  · simp [putB_length]; omega
  · simp
theorem stepEv_len (r : EV × List Int × Bool) (c : Int) : (stepEv r c).2.1.length + (stepEv r c).1.h.size + (stepEv r c).1.s.size ≤ r.2.1.length + r.1.h.size + r.1.s.size + 8 := by
  unfold stepEv
  split
  · rename_i j z hc
    obtain ⟨h1, h2, h3, h4⟩ := numSign_in hc
    have := numOut_len r.2 (r.1.num j) z h4
    match j, h2 with
    | 0, _ => simp only [EV.setN]; omega
    | 1, _ => simp only [EV.setN]; omega
    | 2, _ => simp only [EV.setN]; omega
    | 3, _ => simp only [EV.setN]; omega
    | 4, _ => simp only [EV.setN]; omega
    | 5, _ => simp only [EV.setN]; omega
    | 6, _ => simp only [EV.setN]; omega
  · have e0 : (⟨#[]⟩ : ByteArray).size = 0 := rfl
    rcases txtSign_in c with h | h
    · rw [h]; simp only [EV.setT, EV.txt, if_true, List.length_append, strNums_length, e0]; omega
    · rw [h]; simp only [EV.setT, EV.txt, List.length_append, strNums_length]; rw [if_neg (by omega), if_neg (by omega)]; simp only [e0]; omega
theorem evFold_len (l : List Int) (r : EV × List Int × Bool) : (l.foldl stepEv r).2.1.length + (l.foldl stepEv r).1.h.size + (l.foldl stepEv r).1.s.size ≤ r.2.1.length + r.1.h.size + r.1.s.size + 8 * l.length := by
  induction l generalizing r with
  | nil => simp
  | cons c l ih =>
    have := ih (stepEv r c)
    have := stepEv_len r c
    simp only [List.foldl_cons, List.length_cons]
    omega
theorem evBody_snoc (e : EV) (nm : List Int) (st : List Int × Bool) (k : Nat) (hk : k < nm.length) : (nm.take (k + 1)).foldl stepEv (e.setN 0 0, st) = stepEv ((nm.take k).foldl stepEv (e.setN 0 0, st)) nm[k] := by
  rw [List.take_succ_eq_append_getElem hk, List.foldl_append]; rfl

set_option maxRecDepth 100000 in
set_option maxHeartbeats 4000000 in
theorem out_event (p : Nat) (v : Value) (bs : List Int) (bad : Bool) (e : EV) (nm : List Int) (w : World) (h : BufAt 147 w p v bs (.bool bad)) (hn : ∀ c ∈ nm, 0 ≤ c ∧ c < 128) (hlen : bs.length + 16 + 8 * nm.length + e.h.size + e.s.size ≤ 140737488355328) :
    Calls Tryz.prog 71 #[.pointer (some ⟨p, 0, none⟩), .agg e.cells, .string (bytesOf nm)] w fun en w' => en = .returned (.tuple #[]) ∧ BufPost 147 w p v (evOut e nm (bs, bad)).1 (.bool (evOut e nm (bs, bad)).2) w' := by
  obtain ⟨X, hX, hcase⟩ : ∃ X, X = (bad || nm.isEmpty || !tickB e.d) ∧ ((bad = true ∧ X = true) ∨ (bad = false ∧ ((bytesOf nm).toList = [] ∧ (bytesOf nm).toList.isEmpty = true) ∧ X = true) ∨ (bad = false ∧ (bytesOf nm).toList.isEmpty = false ∧ X = !tickB e.d)) := by
    refine ⟨_, rfl, ?_⟩
    cases bad
    · cases nm with
      | nil => exact Or.inr (Or.inl ⟨rfl, by simp [bytesOf, ByteArray.toList_eq], rfl⟩)
      | cons c l => exact Or.inr (Or.inr ⟨rfl, by simp [bytesOf, ByteArray.toList_eq], by simp⟩)
    · exact Or.inl ⟨rfl, by simp⟩
  obtain ⟨st0, hst0⟩ : ∃ st0, st0 = evHead e nm (bs, bad) := ⟨_, rfl⟩
  have HX := Lib.hid (show st0 = numOut (bs, X) e.k 1 by rw [hst0, evHead, hX])
  have HFIN : Hid (evOut e nm (bs, bad) = ((nm.foldl stepEv (e.setN 0 0, st0)).2.1, (nm.foldl stepEv (e.setN 0 0, st0)).2.2 || !(nm.foldl stepEv (e.setN 0 0, st0)).1.zero)) := Lib.hid (by rw [hst0]; rfl)
  have HLK : Hid (∀ k, k ≤ nm.length → ((nm.take k).foldl stepEv (e.setN 0 0, st0)).2.1.length + ((nm.take k).foldl stepEv (e.setN 0 0, st0)).1.h.size + ((nm.take k).foldl stepEv (e.setN 0 0, st0)).1.s.size + 8 ≤ 140737488355328) := Lib.hid (fun k hk => by
    have h1 := evFold_len (nm.take k) (e.setN 0 0, st0)
    have h2 := numOut_len (bs, X) e.k 1 (by omega)
    rw [← HX.out] at h2
    have h3 : (nm.take k).length ≤ nm.length := by simp; omega
    simp only [EV.setN] at h1 ⊢
    simp only [] at h2
    omega)
  have H := Lib.hid h
  have HN := Lib.hid hn
  obtain ⟨k0, k1, k0f, k1f⟩ := h.cells
  have hpl := blk_lt h.1
  have hpv := h.lt
  have HPV := Lib.hid hpv
  have HL := Lib.hid hlen
  unfold EV.cells
  clear h hX hn hpv hlen hst0
  rcases hcase with ⟨rfl, rfl⟩ | ⟨rfl, ⟨hne, hne2⟩, rfl⟩ | ⟨rfl, hne, rfl⟩
  all_goals
    go_enter Tryz.func71, Tryz.ntmps71
    go_wp2_with (go_at_call 31; refine (tick_any _ _).mono ?_; rintro e w' ⟨rfl, rfl⟩)
    first
      | (obtain ⟨w1, hw1⟩ : ∃ w1, w1 = (w.setCell ⟨p, 1, none⟩ (.bool true)).alloc (.cells #[.int .i64 e.k, .int .i64 e.f, .int .i64 e.t, .int .i64 e.a, .int .i64 e.n, .int .i64 e.i, .int .i64 e.d, .string e.h, .string e.s] 55) := ⟨_, rfl⟩
         rw [← hw1]
         have hst := ev_start H.out hw1)
      | (obtain ⟨w1, hw1⟩ : ∃ w1, w1 = (w.setCell ⟨p, 1, none⟩ (.bool (!tickB e.d))).alloc (.cells #[.int .i64 e.k, .int .i64 e.f, .int .i64 e.t, .int .i64 e.a, .int .i64 e.n, .int .i64 e.i, .int .i64 e.d, .string e.h, .string e.s] 55) := ⟨_, rfl⟩
         rw [← hw1]
         have hst := ev_start H.out hw1)
    obtain ⟨hB1, hR1, hK1⟩ := hst
    have HB1 := Lib.hid hB1
    have HR1 := Lib.hid hR1
    have HK1 := Lib.hid hK1
    have hcR := fun i => blk_cell hR1 i
    clear hB1 hR1 hK1 hw1 k0 k1 k0f k1f
    refine (out_num p v bs _ e.k 1 w1 HB1.out (by have := HL.out; omega)).mono ?_
    rintro en w2 ⟨rfl, hp2⟩
    obtain ⟨v2, hb2, hk2, hf2⟩ := hp2
    rw [← HX.out] at hb2
    have hR2 : w2.heap[w.heap.size]? = some (.cells e.cells 55 (0, 0)) := (hk2.block _ (blk_lt HR1.out) (fun hh => by have := HPV.out _ hh; omega)).trans HR1.out
    have HB2 := Lib.hid hb2
    have HK2 := Lib.hid (show Keeps (fpE p v) w w2 from HK1.out.trans hk2 (fun _ h => Or.inl h))
    have HF2 := Lib.hid (show ∀ g, v2.ownBlock = some g → v.ownBlock = some g ∨ w.heap.size ≤ g from fun g hg => (hf2 g hg).imp id (fun h => Nat.le_trans HK1.out.size h))
    have d0 := blk_cell hR2 0
    have d1 := blk_cell hR2 1
    have d2 := blk_cell hR2 2
    have d3 := blk_cell hR2 3
    have d4 := blk_cell hR2 4
    have d5 := blk_cell hR2 5
    have d6 := blk_cell hR2 6
    have d7 := blk_cell hR2 7
    have d8 := blk_cell hR2 8
    simp only [EV.cells, List.getElem?_toArray, List.getElem?_cons_zero, List.getElem?_cons_succ] at d0 d1 d2 d3 d4 d5 d6 d7 d8
    clear hb2 hR2 hk2 hf2 hcR
    go_wp2_with fail
    obtain ⟨w4, hw4⟩ : ∃ w4, w4 = (w2.alloc (.cells #[.int .i64 0, .int .i64 e.f, .int .i64 e.t, .int .i64 e.a, .int .i64 e.n, .int .i64 e.i, .int .i64 e.d, .string e.h, .string e.s] 55)).iter (bytesOf nm) 0 := ⟨_, rfl⟩
    rw [← hw4]
    have HE0 := Lib.hid (ev_loop0 (e := e.setN 0 0) HB2.out HK2.out HF2.out hw4)
    clear hw4 d0 d1 d2 d3 d4 d5 d6 d7 d8
    generalize w2.heap.size = R at *
    go_loopg [8] nm.length (fun g sg wr => ∃ k v', k + g = nm.length ∧ EvAt w wr p v v' R (R + 1) nm k ((nm.take k).foldl stepEv (e.setN 0 0, st0)))
    case atStart => exact ⟨0, v2, by omega, HE0.out⟩
    case round =>
      obtain ⟨k, v', hkg, hE⟩ := hrel
      by_cases hlt : k < nm.length
      · have hks : k < (bytesOf nm).size := by rw [bytesOf_size]; exact hlt
        have hck := HN.out nm[k] (List.getElem_mem hlt)
        have hget := bytesOf_get nm HN.out k hks
        obtain ⟨w5, hnx, hi5, hk5⟩ := next_step (P := Tryz.prog) wr (R + 1) (bytesOf nm) k hE.iter hks (by omega)
        rw [hget] at hnx
        have HE5 := Lib.hid (hE.next hi5 hk5)
        have HSN := Lib.hid (evBody_snoc e nm st0 k hlt)
        have HLB := Lib.hid (HLK.out k (by omega))
        have hRl := blk_lt HE5.out.rest
        clear hget hi5 hk5 hE
        generalize (nm.take k).foldl stepEv (e.setN 0 0, st0) = st at *
        obtain ⟨e', bs', bad'⟩ := st
        generalize nm[k] = c at *
        cases hc : numSign c with
        | some jz =>
          obtain ⟨j, z⟩ := jz
          obtain ⟨hj1, hj2, hz1, hz2⟩ := numSign_in hc
          have HC := Lib.hid hc
          have HST := Lib.hid (show stepEv (e', bs', bad') c = (e'.setN 0 j, numOut (bs', bad') (e'.num j) z) by simp [stepEv, hc])
          obtain ⟨c5, f5⟩ := HE5.out.cellR j
          rw [EV.cell_num _ _ hj2] at c5
          clear hc
          go_wp2_with (go_at_call 105; refine (number_num R c j z _ hRl HC.out).mono ?_; rintro en w6 ⟨rfl, rfl⟩)
          refine (out_num p v' bs' bad' (e'.num j) z w5 HE5.out.buf (by have := HLB.out; omega)).mono ?_
          rintro en w7 ⟨rfl, hp7⟩
          obtain ⟨v7, hE7⟩ := HE5.out.buffer hp7
          have HE7 := Lib.hid hE7
          obtain ⟨c7, f7⟩ := hE7.cellR j
          rw [EV.cell_num _ _ hj2] at c7
          clear hE7 hp7 c5 f5
          go_wp2
          go_roundg (gk - 1)
          case measure => omega
          case rel => exact ⟨k + 1, v7, by omega, by rw [HSN.out, HST.out]; exact HE7.out.setR j _ _ (EV.set_num _ 0 _ hj2)⟩
        | none =>
          have HC := Lib.hid hc
          have HST := Lib.hid (show stepEv (e', bs', bad') c = (e'.setT ⟨#[]⟩ (txtSign c), (bs' ++ strNums (e'.txt (txtSign c)), bad' || (((e'.txt (txtSign c)).size : Int) != 32))) by simp only [stepEv, hc])
          have hj := txtSign_in c
          obtain ⟨c5, f5⟩ := HE5.out.cellR (txtSign c)
          rw [EV.cell_txt _ _ hj] at c5
          change w5.cell? ⟨R, txtSign c, none⟩ = some (.string (e'.txt (txtSign c))) at c5
          have hsz : bs'.length + (e'.txt (txtSign c)).size ≤ 140737488355328 := by
            have h0 : bs'.length + e'.h.size + e'.s.size + 8 ≤ 140737488355328 := HLB.out
            rcases hj with h | h
            · rw [h]; simp only [EV.txt, if_true]; omega
            · rw [h]; simp only [EV.txt]; rw [if_neg (by omega)]; omega
          have HJ := Lib.hid hj
          have HST2 := Lib.hid (fun u : Value => EV.set_txt e' ⟨#[]⟩ (txtSign c) HJ.out)
          obtain ⟨i0, hi, hz0, hz1, hz2⟩ := info_parts Try_infoU8
          obtain ⟨k0, k1, k0f, k1f⟩ := HE5.out.buf.cells
          have HO := Lib.hid HE5.out.buf.2.1
          have HNE := Lib.hid HE5.out.buf.2.2
          have HFAR := Lib.hid HE5.out.far
          have hpR := HE5.out.pR
          have hpl5 := blk_lt HE5.out.buf.1
          generalize hJJ : txtSign c = j at *
          have HJJ := Lib.hid hJJ
          generalize hTT : e'.txt j = tx at *
          have HTT := Lib.hid hTT
          clear hc hj hJJ hTT
          go_wp2_with (first
            | (go_at_call 105; refine (number_txt R c _ HC.out).mono ?_; rintro en w6 ⟨rfl, rfl⟩)
            | (go_at_call 106; refine (text_any R c _).mono ?_; rintro en w6 ⟨rfl, rfl⟩; rw [HJJ.out]))
          have HOD : Hid (w5.drew.ownsRow 0 5 1 v' bs'.length (bs'.map (Value.int .u8))) := Lib.hid (ownsRow_same HO.out (fun _ _ => rfl))
          have hRp : R ≠ p := Ne.symm hpR
          go_region_law
            ((refine step_append_str (by rfl) _ _ 62 9 (by rfl) 5 i0 Tryz.underlying62 Tryz.underlying9 hi hz0 hz1 hz2 v' bs'.length (bs'.map (Value.int .u8)) (by rfl) HOD.out tx (by rfl) (by unfold maxLen; omega) hsz ?_; intro ao cap w6 hown hgrow hat; have k6 : w6.cell? ⟨p, 0, none⟩ = some v' := (hgrow.cell_far _ (show p < w5.heap.size from hpl5) (Ne.symm HNE.out)).trans k0; have k6f : w6.frozen? ⟨p, 0, none⟩ = false := (hgrow.frozen_far _ (show p < w5.heap.size from hpl5) (Ne.symm HNE.out)).trans k0f; have c6 : w6.cell? ⟨R, j, none⟩ = some (.string tx) := (hgrow.cell_far _ (show R < w5.heap.size from hRl) (Ne.symm HFAR.out.2.2.1)).trans c5; have f6 : w6.frozen? ⟨R, j, none⟩ = false := (hgrow.frozen_far _ (show R < w5.heap.size from hRl) (Ne.symm HFAR.out.2.2.1)).trans f5; have k61 : w6.cell? ⟨p, 1, none⟩ = some (.bool bad') := (hgrow.cell_far _ (show p < w5.heap.size from hpl5) (Ne.symm HNE.out)).trans k1; have k61f : w6.frozen? ⟨p, 1, none⟩ = false := (hgrow.frozen_far _ (show p < w5.heap.size from hpl5) (Ne.symm HNE.out)).trans k1f))
          all_goals
            have hpb := buf_app (zs := strNums tx) (wa := w5.drew) HE5.out.buf ((Keeps.refl _ _).drew) (by rw [List.map_append, strNums_cells]; exact hown) hgrow (fun g hg => (hat g hg).imp id (fun e => by rw [e]; exact Nat.le_refl _))
            obtain ⟨v7, hE7⟩ := HE5.out.buffer hpb
            have HSB := Lib.hid (fun y => hE7.buffer (buf_set hE7.buf (.bool y)))
            clear hown hgrow hat hpb hE7 k0 k1 k0f k1f c5 f5
            cases bad'
            · obtain ⟨v8, hE8⟩ := HSB.out ((tx.size : Int) != 32)
              have HE8 := Lib.hid hE8
              clear hE8
              go_wp2
              go_roundg (gk - 1)
              case measure => omega
              case rel => exact ⟨k + 1, v8, by omega, by rw [HSN.out, HST.out]; exact HE8.out.setR j _ _ (HST2.out (.string ⟨#[]⟩))⟩
            · obtain ⟨v8, hE8⟩ := HSB.out true
              have HE8 := Lib.hid hE8
              clear hE8
              go_wp2
              go_roundg (gk - 1)
              case measure => omega
              case rel => exact ⟨k + 1, v8, by omega, by rw [HSN.out, HST.out]; exact HE8.out.setR j _ _ (HST2.out (.string ⟨#[]⟩))⟩
      · obtain rfl : k = nm.length := by omega
        have hnx := fun ty => next_stop (P := Tryz.prog) wr (R + 1) (bytesOf nm) nm.length hE.iter (by rw [bytesOf_size]; omega) ty
        rw [List.take_of_length_le (Nat.le_refl _)] at hE
        have HEE := Lib.hid hE
        obtain ⟨k0, k1, k0f, k1f⟩ := hE.buf.cells
        have hcR := fun i => (hE.cellR i).1
        have d0 := hcR 0
        have d1 := hcR 1
        have d2 := hcR 2
        have d3 := hcR 3
        have d4 := hcR 4
        have d5 := hcR 5
        have d6 := hcR 6
        have d7 := hcR 7
        have d8 := hcR 8
        simp only [EV.cells, List.getElem?_toArray, List.getElem?_cons_zero, List.getElem?_cons_succ] at d0 d1 d2 d3 d4 d5 d6 d7 d8
        generalize nm.foldl stepEv (e.setN 0 0, st0) = st at *
        obtain ⟨e', bs', bad'⟩ := st
        clear hE hcR hlt
        have HCL := Lib.hid (fun B hB => ev_close HEE.out HFIN.out B hB)
        clear HFIN
        cases bad'
        all_goals
          go_wp2
          all_goals
            go_end0
            refine ⟨rfl, HCL.out _ ?_⟩
            simp [EV.zero, *]

end Go.Proofs.YtkaciaehlibidaaGreat
