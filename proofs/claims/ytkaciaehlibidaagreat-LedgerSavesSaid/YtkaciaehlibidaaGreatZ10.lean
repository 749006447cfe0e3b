/- Parts of the proof: Req3 Req4 Req5 Req6 Req7 Reqp. -/
import Derived.Test.YtkaciaehlibidaaGreatZ02
import Derived.Test.YtkaciaehlibidaaGreatZ09
import Derived.Deep.LoopGhost
import Derived.Deep.RegionHeld3
namespace Go.Proofs.YtkaciaehlibidaaGreat
open Go.RowKit
set_option linter.unusedVariables false
set_option linter.unusedSimpArgs false
def stepEv (r : EV × List Int × Bool) (c : Int) : EV × List Int × Bool :=
 match numSign c with
 | some (j, z) => (r.1.setN 0 j, numOut r.2 (r.1.num j) z)
 | none => (r.1.setT ⟨#[]⟩ (txtSign c), (r.2.1 ++ strNums (r.1.txt (txtSign c)), r.2.2 || (((r.1.txt (txtSign c)).size : Int) != 32)))
def EV.zero (e : EV) : Bool := decide (e.k = 0 ∧ e.f = 0 ∧ e.t = 0 ∧ e.a = 0 ∧ e.n = 0 ∧ e.i = 0 ∧ e.d = 0) && (e.h.toList.isEmpty && e.s.toList.isEmpty)
def evHead (e : EV) (nm : List Int) (st : List Int × Bool) : List Int × Bool := numOut (st.1, st.2 || nm.isEmpty || !tickB e.d) e.k 1
def evBody (e : EV) (nm : List Int) (st : List Int × Bool) : EV × List Int × Bool := nm.foldl stepEv (e.setN 0 0, evHead e nm st)
def evOut (e : EV) (nm : List Int) (st : List Int × Bool) : List Int × Bool := ((evBody e nm st).2.1, (evBody e nm st).2.2 || !(evBody e nm st).1.zero)
theorem bytesOf_size (nm : List Int) : (bytesOf nm).size = nm.length := by
 show ((nm.map fun z => UInt8.ofNat z.toNat).toArray).size = nm.length
 simp
theorem bytesOf_get (nm : List Int) (hn : ∀ c ∈ nm, 0 ≤ c ∧ c < 128) (k : Nat) (hk : k < (bytesOf nm).size) : (((bytesOf nm)[k]'hk).toNat : Int) = nm[k]'(by rw [bytesOf_size] at hk; exact hk) := by
 have hk' : k < nm.length := by rw [bytesOf_size] at hk; exact hk
 have e : (bytesOf nm)[k]'hk = UInt8.ofNat (nm[k].toNat) := by
  have h2 : k < (bytesOf nm).data.size := by simpa [bytesOf] using hk'
  have e1 : (bytesOf nm)[k]'hk = (bytesOf nm).data[k]'h2 := rfl
  rw [e1]
  simp [bytesOf]
 have := hn nm[k] (List.getElem_mem hk')
 rw [e, UInt8.toNat_ofNat']
 omega
structure EvAt (w0 wr : World) (p : Nat) (v v' : Value) (R q : Nat) (nm : List Int) (k : Nat) (st : EV × List Int × Bool) : Prop where
 buf : BufAt 147 wr p v' st.2.1 (.bool st.2.2)
 rest : wr.heap[R]? = some (.cells st.1.cells 55 (0, 0))
 iter : wr.heap[q]? = some (.stringIter (bytesOf nm) k)
 keep : Keeps (fpE p v) w0 wr
 fresh : ∀ g, v'.ownBlock = some g → v.ownBlock = some g ∨ w0.heap.size ≤ g
 pR : p ≠ R
 bR : w0.heap.size ≤ R
 bq : w0.heap.size ≤ q
theorem own_type {w : World} {base : Nat} {e : TypeId} {v : Value} {n : Nat} {xs : List Value} (h : w.ownsRow base e 1 v n xs) {g : Nat} (hg : v.ownBlock = some g) : ∃ cs, w.heap[g]? = some (.cells cs e (0, 0)) := by
 rcases h.2 with ⟨rfl, _⟩ | ⟨g', cap, cur, rfl, _, hh, _⟩
 · cases hg
 · simp only [Value.ownBlock, Option.some.injEq] at hg
   subst hg
   exact ⟨cur, hh⟩
section
variable {w0 wr w' : World} {p : Nat} {v v' : Value} {R q : Nat} {nm : List Int} {k : Nat} {st : EV × List Int × Bool}
theorem EvAt.far (h : EvAt w0 wr p v v' R q nm k st) : R ≠ q ∧ p ≠ q ∧ v'.ownBlock ≠ some R ∧ v'.ownBlock ≠ some q := by
 refine ⟨fun e => ?_, fun e => ?_, fun e => ?_, fun e => ?_⟩
 · have h1 := h.rest; rw [e, h.iter] at h1; cases h1
 · have h1 := h.buf.1; rw [e, h.iter] at h1; cases h1
 · obtain ⟨cs, h1⟩ := own_type h.buf.2.1 e
   rw [h.rest] at h1
   simp at h1
 · obtain ⟨cs, h1⟩ := own_type h.buf.2.1 e
   rw [h.iter] at h1; cases h1
theorem EvAt.next (h : EvAt w0 wr p v v' R q nm k st) (hi : w'.heap[q]? = some (.stringIter (bytesOf nm) (k + 1))) (hk : Keeps (fun i => i = q) wr w') : EvAt w0 w' p v v' R q nm (k + 1) st := by
 obtain ⟨f1, f2, f3, f4⟩ := h.far
 refine ⟨h.buf.keep hk (fun i hfp e => ?_), (hk.block R (blk_lt h.rest) f1).trans h.rest, hi, h.keep.trans hk (fun i hi => Or.inr (by subst hi; exact h.bq)), h.fresh, h.pR, h.bR, h.bq⟩
 rcases hfp with hfp | hfp
 · exact f2 (hfp.symm.trans e)
 · exact f4 (hfp.trans (by rw [e]))
theorem EvAt.buffer (h : EvAt w0 wr p v v' R q nm k st) {bs : List Int} {bad : Bool} (hp : BufPost 147 wr p v' bs (.bool bad) w') : ∃ v2, EvAt w0 w' p v v2 R q nm k (st.1, bs, bad) := by
 obtain ⟨v2, h1, h2, h3⟩ := hp
 obtain ⟨f1, f2, f3, f4⟩ := h.far
 have hf : ∀ i, fpE p v' i → fpE p v i ∨ w0.heap.size ≤ i := fun i hi => by
  rcases hi with rfl | hi
  · exact Or.inl (Or.inl rfl)
  · exact (h.fresh i hi).imp (fun e => Or.inr e) id
 refine ⟨v2, h1, (h2.block R (blk_lt h.rest) (fun e => ?_)).trans h.rest, (h2.block q (blk_lt h.iter) (fun e => ?_)).trans h.iter, h.keep.trans h2 hf, fun g hg => ?_, h.pR, h.bR, h.bq⟩
 · rcases e with e | e
   · exact h.pR e.symm
   · exact f3 e
 · rcases e with e | e
   · exact f2 e.symm
   · exact f4 e
 · rcases h3 g hg with e | e
   · exact h.fresh g e
   · exact Or.inr (Nat.le_trans h.keep.size e)
theorem EvAt.setR (h : EvAt w0 wr p v v' R q nm k st) (j : Nat) (u : Value) (e' : EV) (he : st.1.cells.setIfInBounds j u = e'.cells) : EvAt w0 (wr.setCell ⟨R, j, none⟩ u) p v v' R q nm k (e', st.2) := by
 obtain ⟨f1, f2, f3, f4⟩ := h.far
 have hk : Keeps (fun i => i = R) wr (wr.setCell ⟨R, j, none⟩ u) := (Keeps.refl (fun i => i = R) wr).setCell (p := ⟨R, j, none⟩) (Or.inl rfl) u
 refine ⟨h.buf.keep hk (fun i hi e => ?_), by rw [← he]; exact blk_set h.rest j u, (hk.block q (blk_lt h.iter) (Ne.symm f1)).trans h.iter, h.keep.trans hk (fun i hi => Or.inr (by subst hi; exact h.bR)), h.fresh, h.pR, h.bR, h.bq⟩
 subst e
 rcases hi with hi | hi
 · exact h.pR hi.symm
 · exact f3 hi
theorem EvAt.done (h : EvAt w0 wr p v v' R q nm k st) : BufPost 147 w0 p v st.2.1 (.bool st.2.2) wr := ⟨v', h.buf, h.keep, h.fresh⟩
theorem EvAt.cellR (h : EvAt w0 wr p v v' R q nm k st) (j : Nat) : wr.cell? ⟨R, j, none⟩ = st.1.cells[j]? ∧ wr.frozen? ⟨R, j, none⟩ = false := ⟨blk_cell h.rest j, blk_frozen h.rest j⟩
theorem ev_start {w w1 : World} {p : Nat} {v : Value} {bs : List Int} {bad X : Bool} {e : EV} (h : BufAt 147 w p v bs (.bool bad)) (hw : w1 = (w.setCell ⟨p, 1, none⟩ (.bool X)).alloc (.cells e.cells 55)) :
 BufAt 147 w1 p v bs (.bool X) ∧ w1.heap[w.heap.size]? = some (.cells e.cells 55 (0, 0)) ∧ Keeps (fpE p v) w w1 := by
 subst hw
 obtain ⟨hp, hown, hne⟩ := h
 have hb := buf_set ⟨hp, hown, hne⟩ (.bool X)
 have e1 : (w.setCell ⟨p, 1, none⟩ (.bool X)).heap.size = w.heap.size := by simp [World.setCell]
 have hpl := blk_lt hp
 refine ⟨?_, by rw [← e1]; exact heap_alloc_new _ _, ?_⟩
 · refine BufAt.below ⟨by simpa using blk_set hp 1 (.bool X), ownsRow_same hown (fun g hg => Below.heap_setCell _ _ _ _ (fun e => hne (by rw [hg, e]))), hne⟩ ((Below.refl _ _).alloc (Nat.le_refl _) _)
 · exact ((Keeps.refl (fpE p v) w).setCell (p := ⟨p, 1, none⟩) (Or.inl (Or.inl rfl)) _).alloc _
end
theorem ev_close {w0 wr : World} {p : Nat} {v v' : Value} {R q : Nat} {nm nm' : List Int} {k : Nat} {e e' : EV} {bs bs' : List Int} {bad bad' : Bool} (h : EvAt w0 wr p v v' R q nm k (e', bs', bad')) (hf : evOut e nm' (bs, bad) = (bs', bad' || !e'.zero)) (B : Bool) (hB : B = (bad' || !e'.zero)) :
 BufPost 147 w0 p v (evOut e nm' (bs, bad)).1 (.bool (evOut e nm' (bs, bad)).2) (wr.setCell ⟨p, 1, none⟩ (.bool B)) := by
 rw [hf, hB]
 obtain ⟨v2, h2⟩ := h.buffer (buf_set h.buf (.bool (bad' || !e'.zero)))
 exact h2.done
theorem ev_loop0 {w w2 w4 : World} {p : Nat} {v v2 : Value} {bs : List Int} {bad : Bool} {e : EV} {nm : List Int} (hb : BufAt 147 w2 p v2 bs (.bool bad)) (hk : Keeps (fpE p v) w w2) (hf : ∀ g, v2.ownBlock = some g → v.ownBlock = some g ∨ w.heap.size ≤ g)
 (hw : w4 = (w2.alloc (.cells e.cells 55)).iter (bytesOf nm) 0) : EvAt w w4 p v v2 w2.heap.size (w2.heap.size + 1) nm 0 (e, bs, bad) := by
 have hs := hk.size
 have hpl := blk_lt hb.1
 have e1 : (w2.alloc (.cells e.cells 55)).heap.size = w2.heap.size + 1 := by simp
 have h24 : Below w2.heap.size w2 w4 := by subst hw; exact ((Below.refl _ _).alloc (Nat.le_refl _) _).alloc (by omega) _
 refine ⟨hb.below h24, ?_, ?_, hk.trans (Keeps.of_below (S := fun _ => False) h24) (fun _ f => f.elim), hf, by omega, hs, by omega⟩
 · subst hw; exact (Below.heap_alloc _ _ _ (by omega)).trans (heap_alloc_new w2 _)
 · subst hw; rw [← e1]; exact World.iter_heap _ _ _
theorem numOut_len (st : List Int × Bool) (n size : Int) (h : size ≤ 8) : (numOut st n size).1.length ≤ st.1.length + 8 := by
 unfold numOut
 split
 · simp [putB_length]; omega
 · simp
theorem stepEv_len (r : EV × List Int × Bool) (c : Int) : (stepEv r c).2.1.length + (stepEv r c).1.h.size + (stepEv r c).1.s.size ≤ r.2.1.length + r.1.h.size + r.1.s.size + 8 := by
 unfold stepEv
 split
 · rename_i j z hc
   obtain ⟨h1, h2, h3, h4⟩ := numSign_in hc
   have := numOut_len r.2 (r.1.num j) z h4
   match j, h2 with
   | 0, _ => simp only [EV.setN]; omega
   | 1, _ => simp only [EV.setN]; omega
   | 2, _ => simp only [EV.setN]; omega
   | 3, _ => simp only [EV.setN]; omega
   | 4, _ => simp only [EV.setN]; omega
   | 5, _ => simp only [EV.setN]; omega
   | 6, _ => simp only [EV.setN]; omega
 · have e0 : (⟨#[]⟩ : ByteArray).size = 0 := rfl
   rcases txtSign_in c with h | h
   · rw [h]; simp only [EV.setT, EV.txt, if_true, List.length_append, strNums_length, e0]; omega
   · rw [h]; simp only [EV.setT, EV.txt, List.length_append, strNums_length]; rw [if_neg (by omega), if_neg (by omega)]; simp only [e0]; omega
theorem evFold_len (l : List Int) (r : EV × List Int × Bool) : (l.foldl stepEv r).2.1.length + (l.foldl stepEv r).1.h.size + (l.foldl stepEv r).1.s.size ≤ r.2.1.length + r.1.h.size + r.1.s.size + 8 * l.length := by
 induction l generalizing r with
 | nil => simp
 | cons c l ih =>
   have := ih (stepEv r c)
   have := stepEv_len r c
   simp only [List.foldl_cons, List.length_cons]
   omega
theorem evBody_snoc (e : EV) (nm : List Int) (st : List Int × Bool) (k : Nat) (hk : k < nm.length) : (nm.take (k + 1)).foldl stepEv (e.setN 0 0, st) = stepEv ((nm.take k).foldl stepEv (e.setN 0 0, st)) nm[k] := by
 rw [List.take_succ_eq_append_getElem hk, List.foldl_append]; rfl
set_option maxRecDepth 100000 in
set_option maxHeartbeats 4000000 in
theorem out_event (p : Nat) (v : Value) (bs : List Int) (bad : Bool) (e : EV) (nm : List Int) (w : World) (h : BufAt 147 w p v bs (.bool bad)) (hn : ∀ c ∈ nm, 0 ≤ c ∧ c < 128) (hlen : bs.length + 16 + 8 * nm.length + e.h.size + e.s.size ≤ 140737488355328) :
 Calls Tryz.prog 71 #[.pointer (some ⟨p, 0, none⟩), .agg e.cells, .string (bytesOf nm)] w fun en w' => en = .returned (.tuple #[]) ∧ BufPost 147 w p v (evOut e nm (bs, bad)).1 (.bool (evOut e nm (bs, bad)).2) w' := by
 obtain ⟨X, hX, hcase⟩ : ∃ X, X = (bad || nm.isEmpty || !tickB e.d) ∧ ((bad = true ∧ X = true) ∨ (bad = false ∧ ((bytesOf nm).toList = [] ∧ (bytesOf nm).toList.isEmpty = true) ∧ X = true) ∨ (bad = false ∧ (bytesOf nm).toList.isEmpty = false ∧ X = !tickB e.d)) := by
  refine ⟨_, rfl, ?_⟩
  cases bad
  · cases nm with
    | nil => exact Or.inr (Or.inl ⟨rfl, by simp [bytesOf, ByteArray.toList_eq], rfl⟩)
    | cons c l => exact Or.inr (Or.inr ⟨rfl, by simp [bytesOf, ByteArray.toList_eq], by simp⟩)
  · exact Or.inl ⟨rfl, by simp⟩
 obtain ⟨st0, hst0⟩ : ∃ st0, st0 = evHead e nm (bs, bad) := ⟨_, rfl⟩
 have HX := Lib.hid (show st0 = numOut (bs, X) e.k 1 by rw [hst0, evHead, hX])
 have HFIN : Hid (evOut e nm (bs, bad) = ((nm.foldl stepEv (e.setN 0 0, st0)).2.1, (nm.foldl stepEv (e.setN 0 0, st0)).2.2 || !(nm.foldl stepEv (e.setN 0 0, st0)).1.zero)) := Lib.hid (by rw [hst0]; rfl)
 have HLK : Hid (∀ k, k ≤ nm.length → ((nm.take k).foldl stepEv (e.setN 0 0, st0)).2.1.length + ((nm.take k).foldl stepEv (e.setN 0 0, st0)).1.h.size + ((nm.take k).foldl stepEv (e.setN 0 0, st0)).1.s.size + 8 ≤ 140737488355328) := Lib.hid (fun k hk => by
  have h1 := evFold_len (nm.take k) (e.setN 0 0, st0)
  have h2 := numOut_len (bs, X) e.k 1 (by omega)
  rw [← HX.out] at h2
  have h3 : (nm.take k).length ≤ nm.length := by simp; omega
  simp only [EV.setN] at h1 ⊢
  simp only [] at h2
  omega)
 have H := Lib.hid h
 have HN := Lib.hid hn
 obtain ⟨k0, k1, k0f, k1f⟩ := h.cells
 have hpl := blk_lt h.1
 have hpv := h.lt
 have HPV := Lib.hid hpv
 have HL := Lib.hid hlen
 unfold EV.cells
 clear h hX hn hpv hlen hst0
 rcases hcase with ⟨rfl, rfl⟩ | ⟨rfl, ⟨hne, hne2⟩, rfl⟩ | ⟨rfl, hne, rfl⟩
 all_goals
  go_enter Tryz.func71, Tryz.ntmps71
  go_wp2_with (go_at_call 31; refine (tick_any _ _).mono ?_; rintro e w' ⟨rfl, rfl⟩)
  first
   | (obtain ⟨w1, hw1⟩ : ∃ w1, w1 = (w.setCell ⟨p, 1, none⟩ (.bool true)).alloc (.cells #[.int .i64 e.k, .int .i64 e.f, .int .i64 e.t, .int .i64 e.a, .int .i64 e.n, .int .i64 e.i, .int .i64 e.d, .string e.h, .string e.s] 55) := ⟨_, rfl⟩
      rw [← hw1]
      have hst := ev_start H.out hw1)
   | (obtain ⟨w1, hw1⟩ : ∃ w1, w1 = (w.setCell ⟨p, 1, none⟩ (.bool (!tickB e.d))).alloc (.cells #[.int .i64 e.k, .int .i64 e.f, .int .i64 e.t, .int .i64 e.a, .int .i64 e.n, .int .i64 e.i, .int .i64 e.d, .string e.h, .string e.s] 55) := ⟨_, rfl⟩
      rw [← hw1]
      have hst := ev_start H.out hw1)
  obtain ⟨hB1, hR1, hK1⟩ := hst
  have HB1 := Lib.hid hB1
  have HR1 := Lib.hid hR1
  have HK1 := Lib.hid hK1
  have hcR := fun i => blk_cell hR1 i
  clear hB1 hR1 hK1 hw1 k0 k1 k0f k1f
  refine (out_num p v bs _ e.k 1 w1 HB1.out (by have := HL.out; omega)).mono ?_
  rintro en w2 ⟨rfl, hp2⟩
  obtain ⟨v2, hb2, hk2, hf2⟩ := hp2
  rw [← HX.out] at hb2
  have hR2 : w2.heap[w.heap.size]? = some (.cells e.cells 55 (0, 0)) := (hk2.block _ (blk_lt HR1.out) (fun hh => by have := HPV.out _ hh; omega)).trans HR1.out
  have HB2 := Lib.hid hb2
  have HK2 := Lib.hid (show Keeps (fpE p v) w w2 from HK1.out.trans hk2 (fun _ h => Or.inl h))
  have HF2 := Lib.hid (show ∀ g, v2.ownBlock = some g → v.ownBlock = some g ∨ w.heap.size ≤ g from fun g hg => (hf2 g hg).imp id (fun h => Nat.le_trans HK1.out.size h))
  have d0 := blk_cell hR2 0
  have d1 := blk_cell hR2 1
  have d2 := blk_cell hR2 2
  have d3 := blk_cell hR2 3
  have d4 := blk_cell hR2 4
  have d5 := blk_cell hR2 5
  have d6 := blk_cell hR2 6
  have d7 := blk_cell hR2 7
  have d8 := blk_cell hR2 8
  simp only [EV.cells, lq] at d0 d1 d2 d3 d4 d5 d6 d7 d8
  clear hb2 hR2 hk2 hf2 hcR
  go_wp2_with fail
  obtain ⟨w4, hw4⟩ : ∃ w4, w4 = (w2.alloc (.cells #[.int .i64 0, .int .i64 e.f, .int .i64 e.t, .int .i64 e.a, .int .i64 e.n, .int .i64 e.i, .int .i64 e.d, .string e.h, .string e.s] 55)).iter (bytesOf nm) 0 := ⟨_, rfl⟩
  rw [← hw4]
  have HE0 := Lib.hid (ev_loop0 (e := e.setN 0 0) HB2.out HK2.out HF2.out hw4)
  clear hw4 d0 d1 d2 d3 d4 d5 d6 d7 d8
  generalize w2.heap.size = R at *
  go_loopg [8] nm.length (fun g sg wr => ∃ k v', k + g = nm.length ∧ EvAt w wr p v v' R (R + 1) nm k ((nm.take k).foldl stepEv (e.setN 0 0, st0)))
  case atStart => exact ⟨0, v2, by omega, HE0.out⟩
  case round =>
   obtain ⟨k, v', hkg, hE⟩ := hrel
   by_cases hlt : k < nm.length
   · have hks : k < (bytesOf nm).size := by rw [bytesOf_size]; exact hlt
     have hck := HN.out nm[k] (List.getElem_mem hlt)
     have hget := bytesOf_get nm HN.out k hks
     obtain ⟨w5, hnx, hi5, hk5⟩ := next_step (P := Tryz.prog) wr (R + 1) (bytesOf nm) k hE.iter hks (by omega)
     rw [hget] at hnx
     have HE5 := Lib.hid (hE.next hi5 hk5)
     have HSN := Lib.hid (evBody_snoc e nm st0 k hlt)
     have HLB := Lib.hid (HLK.out k (by omega))
     have hRl := blk_lt HE5.out.rest
     clear hget hi5 hk5 hE
     generalize (nm.take k).foldl stepEv (e.setN 0 0, st0) = st at *
     obtain ⟨e', bs', bad'⟩ := st
     generalize nm[k] = c at *
     cases hc : numSign c with
     | some jz =>
       obtain ⟨j, z⟩ := jz
       obtain ⟨hj1, hj2, hz1, hz2⟩ := numSign_in hc
       have HC := Lib.hid hc
       have HST := Lib.hid (show stepEv (e', bs', bad') c = (e'.setN 0 j, numOut (bs', bad') (e'.num j) z) by simp [stepEv, hc])
       obtain ⟨c5, f5⟩ := HE5.out.cellR j
       rw [EV.cell_num _ _ hj2] at c5
       clear hc
       go_wp2_with (go_at_call 105; refine (number_num R c j z _ hRl HC.out).mono ?_; rintro en w6 ⟨rfl, rfl⟩)
       refine (out_num p v' bs' bad' (e'.num j) z w5 HE5.out.buf (by have := HLB.out; omega)).mono ?_
       rintro en w7 ⟨rfl, hp7⟩
       obtain ⟨v7, hE7⟩ := HE5.out.buffer hp7
       have HE7 := Lib.hid hE7
       obtain ⟨c7, f7⟩ := hE7.cellR j
       rw [EV.cell_num _ _ hj2] at c7
       clear hE7 hp7 c5 f5
       go_wp2
       go_roundg (gk - 1)
       case measure => omega
       case rel => exact ⟨k + 1, v7, by omega, by rw [HSN.out, HST.out]; exact HE7.out.setR j _ _ (EV.set_num _ 0 _ hj2)⟩
     | none =>
       have HC := Lib.hid hc
       have HST := Lib.hid (show stepEv (e', bs', bad') c = (e'.setT ⟨#[]⟩ (txtSign c), (bs' ++ strNums (e'.txt (txtSign c)), bad' || (((e'.txt (txtSign c)).size : Int) != 32))) by simp only [stepEv, hc])
       have hj := txtSign_in c
       obtain ⟨c5, f5⟩ := HE5.out.cellR (txtSign c)
       rw [EV.cell_txt _ _ hj] at c5
       change w5.cell? ⟨R, txtSign c, none⟩ = some (.string (e'.txt (txtSign c))) at c5
       have hsz : bs'.length + (e'.txt (txtSign c)).size ≤ 140737488355328 := by
        have h0 : bs'.length + e'.h.size + e'.s.size + 8 ≤ 140737488355328 := HLB.out
        rcases hj with h | h
        · rw [h]; simp only [EV.txt, if_true]; omega
        · rw [h]; simp only [EV.txt]; rw [if_neg (by omega)]; omega
       have HJ := Lib.hid hj
       have HST2 := Lib.hid (fun u : Value => EV.set_txt e' ⟨#[]⟩ (txtSign c) HJ.out)
       obtain ⟨i0, hi, hz0, hz1, hz2⟩ := info_parts Try_infoU8
       obtain ⟨k0, k1, k0f, k1f⟩ := HE5.out.buf.cells
       have HO := Lib.hid HE5.out.buf.2.1
       have HNE := Lib.hid HE5.out.buf.2.2
       have HFAR := Lib.hid HE5.out.far
       have hpR := HE5.out.pR
       have hpl5 := blk_lt HE5.out.buf.1
       generalize hJJ : txtSign c = j at *
       have HJJ := Lib.hid hJJ
       generalize hTT : e'.txt j = tx at *
       have HTT := Lib.hid hTT
       clear hc hj hJJ hTT
       go_wp2_with (first
        | (go_at_call 105; refine (number_txt R c _ HC.out).mono ?_; rintro en w6 ⟨rfl, rfl⟩)
        | (go_at_call 106; refine (text_any R c _).mono ?_; rintro en w6 ⟨rfl, rfl⟩; rw [HJJ.out]))
       have HOD : Hid (w5.drew.ownsRow 0 5 1 v' bs'.length (bs'.map (Value.int .u8))) := Lib.hid (ownsRow_same HO.out (fun _ _ => rfl))
       have hRp : R ≠ p := Ne.symm hpR
       go_region_law
        ((refine step_append_str (by rfl) _ _ 62 9 (by rfl) 5 i0 Tryz.underlying62 Tryz.underlying9 hi hz0 hz1 hz2 v' bs'.length (bs'.map (Value.int .u8)) (by rfl) HOD.out tx (by rfl) (by unfold maxLen; omega) hsz ?_; intro ao cap w6 hown hgrow hat; have k6 : w6.cell? ⟨p, 0, none⟩ = some v' := (hgrow.cell_far _ (show p < w5.heap.size from hpl5) (Ne.symm HNE.out)).trans k0; have k6f : w6.frozen? ⟨p, 0, none⟩ = false := (hgrow.frozen_far _ (show p < w5.heap.size from hpl5) (Ne.symm HNE.out)).trans k0f; have c6 : w6.cell? ⟨R, j, none⟩ = some (.string tx) := (hgrow.cell_far _ (show R < w5.heap.size from hRl) (Ne.symm HFAR.out.2.2.1)).trans c5; have f6 : w6.frozen? ⟨R, j, none⟩ = false := (hgrow.frozen_far _ (show R < w5.heap.size from hRl) (Ne.symm HFAR.out.2.2.1)).trans f5; have k61 : w6.cell? ⟨p, 1, none⟩ = some (.bool bad') := (hgrow.cell_far _ (show p < w5.heap.size from hpl5) (Ne.symm HNE.out)).trans k1; have k61f : w6.frozen? ⟨p, 1, none⟩ = false := (hgrow.frozen_far _ (show p < w5.heap.size from hpl5) (Ne.symm HNE.out)).trans k1f))
       all_goals
        have hpb := buf_app (zs := strNums tx) (wa := w5.drew) HE5.out.buf ((Keeps.refl _ _).drew) (by rw [List.map_append, strNums_cells]; exact hown) hgrow (fun g hg => (hat g hg).imp id (fun e => by rw [e]; exact Nat.le_refl _))
        obtain ⟨v7, hE7⟩ := HE5.out.buffer hpb
        have HSB := Lib.hid (fun y => hE7.buffer (buf_set hE7.buf (.bool y)))
        clear hown hgrow hat hpb hE7 k0 k1 k0f k1f c5 f5
        cases bad'
        · obtain ⟨v8, hE8⟩ := HSB.out ((tx.size : Int) != 32)
          have HE8 := Lib.hid hE8
          clear hE8
          go_wp2
          go_roundg (gk - 1)
          case measure => omega
          case rel => exact ⟨k + 1, v8, by omega, by rw [HSN.out, HST.out]; exact HE8.out.setR j _ _ (HST2.out (.string ⟨#[]⟩))⟩
        · obtain ⟨v8, hE8⟩ := HSB.out true
          have HE8 := Lib.hid hE8
          clear hE8
          go_wp2
          go_roundg (gk - 1)
          case measure => omega
          case rel => exact ⟨k + 1, v8, by omega, by rw [HSN.out, HST.out]; exact HE8.out.setR j _ _ (HST2.out (.string ⟨#[]⟩))⟩
   · obtain rfl : k = nm.length := by omega
     have hnx := fun ty => next_stop (P := Tryz.prog) wr (R + 1) (bytesOf nm) nm.length hE.iter (by rw [bytesOf_size]; omega) ty
     rw [List.take_of_length_le (Nat.le_refl _)] at hE
     have HEE := Lib.hid hE
     obtain ⟨k0, k1, k0f, k1f⟩ := hE.buf.cells
     have hcR := fun i => (hE.cellR i).1
     have d0 := hcR 0
     have d1 := hcR 1
     have d2 := hcR 2
     have d3 := hcR 3
     have d4 := hcR 4
     have d5 := hcR 5
     have d6 := hcR 6
     have d7 := hcR 7
     have d8 := hcR 8
     simp only [EV.cells, lq] at d0 d1 d2 d3 d4 d5 d6 d7 d8
     generalize nm.foldl stepEv (e.setN 0 0, st0) = st at *
     obtain ⟨e', bs', bad'⟩ := st
     clear hE hcR hlt
     have HCL := Lib.hid (fun B hB => ev_close HEE.out HFIN.out B hB)
     clear HFIN
     cases bad'
     all_goals
      go_wp2
      all_goals
       go_end0
       refine ⟨rfl, HCL.out _ ?_⟩
       simp [EV.zero, *]
instance : Inhabited RQ := ⟨⟨0, 0, 0, 0, 0, 0, ⟨#[]⟩, ⟨#[]⟩⟩⟩
def RQ.at_ (r : RQ) (w : World) (b o : Nat) : Prop := ∀ j v, r.cells[j]? = some v → w.cell? ⟨b, o + j, none⟩ = some v
def RqsAt (w : World) (ao : Option Addr) (rs : List RQ) : Prop := rs = [] ∨ ∃ b off, ao = some ⟨b, off, none⟩ ∧ ∀ i (h : i < rs.length), rs[i].at_ w b (off + i * 8)
theorem RQ.at_.all {r : RQ} {w : World} {b o : Nat} (h : r.at_ w b o) : w.cell? ⟨b, o, none⟩ = some (.int .i64 r.k) ∧ w.cell? ⟨b, o + 1, none⟩ = some (.int .i64 r.t) ∧ w.cell? ⟨b, o + 2, none⟩ = some (.int .i64 r.a) ∧ w.cell? ⟨b, o + 3, none⟩ = some (.int .i64 r.n) ∧
 w.cell? ⟨b, o + 4, none⟩ = some (.int .i64 r.i) ∧ w.cell? ⟨b, o + 5, none⟩ = some (.int .i64 r.d) ∧ w.cell? ⟨b, o + 6, none⟩ = some (.string r.h) ∧ w.cell? ⟨b, o + 7, none⟩ = some (.string r.s) :=
 ⟨h 0 _ rfl, h 1 _ rfl, h 2 _ rfl, h 3 _ rfl, h 4 _ rfl, h 5 _ rfl, h 6 _ rfl, h 7 _ rfl⟩
theorem RQ.at_.below {w w' : World} {b o : Nat} {r : RQ} (h : r.at_ w b o) (hb : Below w.heap.size w w') : r.at_ w' b o := fun j v hv => by
 have h1 := h j v hv
 rw [hb.cell (World.block_lt_of_cell? w _ h1)]; exact h1
theorem RqsAt.below {w w' : World} {ao : Option Addr} {rs : List RQ} (h : RqsAt w ao rs) (hb : Below w.heap.size w w') : RqsAt w' ao rs := by
 rcases h with h | ⟨b, off, h1, h2⟩
 · exact Or.inl h
 · exact Or.inr ⟨b, off, h1, fun i hi => (h2 i hi).below hb⟩
theorem rq_cells {w : World} {ao : Option Addr} {rs : List RQ} (h : RqsAt w ao rs) (i : Nat) (hi : i < rs.length) : ∃ b off, ao = some ⟨b, off, none⟩ ∧ rs[i].at_ w b (off + i * 8) := by
 rcases h with h | ⟨b, off, h1, h2⟩
 · rw [h] at hi; simp at hi
 · exact ⟨b, off, h1, h2 i hi⟩
def encReq (st : List Int × Bool) (r : RQ) : List Int × Bool := evOut r.ev (hasN r.k false) st
def encHead (seen : Int) (n : Nat) : List Int × Bool := numOut (numOut ([], false) seen 2) n 1
def encSt (seen : Int) (rs : List RQ) : List Int × Bool := rs.foldl encReq (encHead seen rs.length)
def encF (seen : Int) (rs : List RQ) : List Int × Int := if 64 < rs.length then ([], 1) else outEnd (encSt seen rs)
theorem hasN_in (k : Int) (ev : Bool) : (∀ c ∈ hasN k ev, 0 ≤ c ∧ c < 128) ∧ (hasN k ev).length ≤ 7 := by
 unfold hasN
 repeat' split
 all_goals exact ⟨by decide, by decide⟩
theorem evOut_len (e : EV) (nm : List Int) (st : List Int × Bool) : (evOut e nm st).1.length ≤ st.1.length + 8 + 8 * nm.length + e.h.size + e.s.size := by
 have h1 := evFold_len nm (e.setN 0 0, evHead e nm st)
 have h2 := numOut_len (st.1, st.2 || nm.isEmpty || !tickB e.d) e.k 1 (by omega)
 show (evBody e nm st).2.1.length ≤ _
 unfold evBody evHead at *
 simp only [EV.setN] at h1 ⊢
 simp only [] at h2
 omega
theorem encHead_len (seen : Int) (n : Nat) : (encHead seen n).1.length ≤ 16 := by
 have h1 := numOut_len ([], false) seen 2 (by omega)
 have h2 := numOut_len (numOut ([], false) seen 2) n 1 (by omega)
 unfold encHead
 simp only [List.length_nil] at h1
 omega
def rqSum (rs : List RQ) : Nat := (rs.map (fun r => r.h.size + r.s.size)).sum
theorem encFold_len (l : List RQ) (st : List Int × Bool) : (l.foldl encReq st).1.length ≤ st.1.length + 64 * l.length + rqSum l := by
 induction l generalizing st with
 | nil => simp [rqSum]
 | cons r l ih =>
   have h1 := ih (encReq st r)
   have h2 := evOut_len r.ev (hasN r.k false) st
   have h3 := (hasN_in r.k false).2
   have h4 : rqSum (r :: l) = r.h.size + r.s.size + rqSum l := by simp [rqSum]
   have h5 : r.ev.h = r.h := rfl
   have h6 : r.ev.s = r.s := rfl
   rw [h5, h6] at h2
   simp only [List.foldl_cons, List.length_cons]
   unfold encReq at *
   omega
theorem rqSum_take (rs : List RQ) (k : Nat) : rqSum (rs.take k) ≤ rqSum rs := by
 have h := congrArg rqSum (List.take_append_drop k rs)
 unfold rqSum at *
 rw [List.map_append, List.sum_append] at h
 omega
theorem rqSum_at (rs : List RQ) (k : Nat) (hk : k < rs.length) : rqSum (rs.take k) + (rs[k].h.size + rs[k].s.size) ≤ rqSum rs := by
 have h := rqSum_take rs (k + 1)
 rw [List.take_succ_eq_append_getElem hk] at h
 unfold rqSum at *
 simp only [List.map_append, List.sum_append, List.map_cons, List.map_nil, List.sum_cons, List.sum_nil] at h
 omega
theorem own_shapeR {w : World} {e : TypeId} {sz n : Nat} {v : Value} {xs : List Value} (h : w.ownsRow 0 e sz v n xs) : ∃ ao c, v = .slice ao n c ∧ n ≤ c ∧ c ≤ maxLen := by
 rcases h.2 with ⟨rfl, rfl⟩ | ⟨g, cap, cur, rfl, _, _, h1, h2, _⟩
 · exact ⟨none, 0, rfl, Nat.le_refl _, Nat.zero_le _⟩
 · exact ⟨_, cap, rfl, h1, h2⟩
theorem own_bounds {w : World} {e : TypeId} {sz n m c : Nat} {ao : Option Addr} {v : Value} {xs : List Value} (h : w.ownsRow 0 e sz v n xs) (hv : .slice ao m c = v) : m ≤ c ∧ c ≤ maxLen := by
 obtain ⟨ao', c', rfl, h1, h2⟩ := own_shapeR h
 cases hv
 exact ⟨h1, h2⟩
def EncBPost (w : World) (r : List Int × Int) (e : Ending) (w' : World) : Prop := ∃ ao cap, e = .returned (.tuple #[.slice ao r.1.length cap, .int .i64 r.2]) ∧ IntsAt .u8 w' ao r.1 ∧ Below w.heap.size w w' ∧ (∀ a, ao = some a → w.heap.size ≤ a.block) ∧ r.1.length ≤ cap ∧ cap ≤ maxLen
set_option maxRecDepth 100000 in
set_option maxHeartbeats 4000000 in
theorem encodeBatch (seen : Int) (ao : Option Addr) (rs : List RQ) (n cap : Nat) (w : World) (hn : rs.length = n) (h : RqsAt w ao rs) (hsum : rqSum rs ≤ 1000000000) :
 Calls Tryz.prog 59 #[.agg #[.int .i64 seen, .slice ao n cap]] w (EncBPost w (encF seen rs)) := by
 have H := Lib.hid h
 have HN := Lib.hid hn
 have HS := Lib.hid hsum
 by_cases h64 : 64 < n
 · have i64 : (64 : Int) < (n : Int) := by omega
   have HF := Lib.hid (show encF seen rs = ([], 1) by simp [encF, hn, h64])
   clear h hn hsum
   go_enter Tryz.func59, Tryz.ntmps59
   go_wp2
   go_ret2
   rw [HF.out]
   exact ⟨none, 0, rfl, Or.inl rfl, ((Below.refl _ _).alloc (Nat.le_refl _) _).alloc (by simp) _, (fun a ha => by cases ha), Nat.le_refl _, Nat.zero_le _⟩
 · have i64 : ¬ (64 : Int) < (n : Int) := by omega
   have HF := Lib.hid (show encF seen rs = outEnd (encSt seen rs) by simp [encF, hn, h64])
   have HST := Lib.hid (show encSt seen rs = rs.foldl encReq (numOut (numOut ([], false) seen 2) n 1) by rw [encSt, encHead, hn])
   have HHL := Lib.hid (encHead_len seen n)
   have HH1 := Lib.hid (numOut_len ([], false) seen 2 (by omega))
   obtain ⟨w2, hw2⟩ : ∃ w2, w2 = (w.alloc (.cells #[.int .i64 seen, .slice ao n cap] 41)).alloc (.cells #[.slice none 0 0, .bool false] 147) := ⟨_, rfl⟩
   have HB2 : Hid (Below w.heap.size w w2) := Lib.hid (by subst hw2; exact ((Below.refl _ _).alloc (Nat.le_refl _) _).alloc (by simp) _)
   have HO2 : Hid (BufAt 147 w2 (w.heap.size + 1) (.slice none 0 0) [] (.bool false)) := Lib.hid (by
    subst hw2
    have := buf_new (w.alloc (.cells #[.int .i64 seen, .slice ao n cap] 41)) 147 (.bool false)
    simpa using this)
   have HX2 : Hid (w2.heap[w.heap.size]? = some (.cells #[.int .i64 seen, .slice ao n cap] 41 (0, 0))) := Lib.hid (by
    subst hw2
    exact (Below.heap_alloc _ _ _ (by simp)).trans (heap_alloc_new w _))
   have HW2 := Lib.hid hw2
   clear h hn hsum hw2
   go_enter Tryz.func59, Tryz.ntmps59
   go_wp2_with fail
   rw [← HW2.out]
   refine (out_num _ _ _ _ seen 2 w2 HO2.out (by simp)).mono ?_
   rintro en w3 ⟨rfl, v3, hb3, hk3, hf3⟩
   have HBA3 := Lib.hid hb3
   have HB3 := Lib.hid (HB2.out.trans (hk3.below (B := w.heap.size) HB2.out.size (fun k hk => by rcases hk with rfl | hk; omega; cases hk)))
   have HF3 : Hid (∀ g, v3.ownBlock = some g → w.heap.size < g) := Lib.hid (fun g hg => by
    rcases hf3 g hg with h | h
    · cases h
    · have h1 := blk_lt HO2.out.1; omega)
   have hx3 := (hk3.block w.heap.size (blk_lt HX2.out) (fun hk => by rcases hk with hk | hk; omega; cases hk)).trans HX2.out
   have HX3 := Lib.hid hx3
   have c0 := blk_cell hx3 0
   have c1 := blk_cell hx3 1
   simp only [lq] at c0 c1
   clear hb3 hk3 hf3 hx3
   go_wp2_with fail
   refine (out_num _ _ _ _ n 1 w3 HBA3.out (by have := HH1.out; simp at this; omega)).mono ?_
   rintro en w4 ⟨rfl, v4, hb4, hk4, hf4⟩
   have HBA4 := Lib.hid hb4
   have HFP3 : Hid (∀ k, fpE (w.heap.size + 1) v3 k → w.heap.size < k) := Lib.hid (fun k hk => by rcases hk with rfl | hk; omega; exact HF3.out k hk)
   have HB4 := Lib.hid (HB3.out.trans (hk4.below (B := w.heap.size) HB3.out.size (fun k hk => by have := HFP3.out k hk; omega)))
   have HF4 : Hid (∀ g, v4.ownBlock = some g → w.heap.size < g) := Lib.hid (fun g hg => by
    rcases hf4 g hg with h | h
    · exact HF3.out g h
    · have h1 := blk_lt HX3.out; omega)
   have hx4 := (hk4.block w.heap.size (blk_lt HX3.out) (fun hk => by have := HFP3.out _ hk; omega)).trans HX3.out
   have d0 := blk_cell hx4 0
   have d1 := blk_cell hx4 1
   simp only [lq] at d0 d1
   have HX4 := Lib.hid hx4
   clear hb4 hk4 hf4 hx4 c0 c1
   go_wp2_with fail
   have HL0 : Hid ((numOut (numOut ([], false) seen 2) (n : Int) 1).1.length ≤ 16) := Lib.hid HHL.out
   generalize numOut (numOut ([], false) seen 2) (n : Int) 1 = st0 at *
   go_loopw [21] (fun i wr => ∃ k v', k ≤ n ∧ i = .int .i64 (k : Nat) ∧ BufAt 147 wr (w.heap.size + 1) v' ((rs.take k).foldl encReq st0).1 (.bool ((rs.take k).foldl encReq st0).2) ∧ Below w.heap.size w wr ∧ (∀ g, v'.ownBlock = some g → w.heap.size < g)) (fun i _ => n + 1 - (intOf i + 1).toNat)
   case atStart => exact ⟨0, v4, Nat.zero_le _, rfl, HBA4.out, HB4.out, HF4.out⟩
   case round =>
    obtain ⟨k, v', hk, rfl, hba, hbel, hfr⟩ := hrel
    have HBA := Lib.hid hba
    have HBE := Lib.hid hbel
    have HFR := Lib.hid hfr
    clear hba hbel hfr
    by_cases hlt : k < n
    · have hkb : k < rs.length := by rw [HN.out]; exact hlt
      obtain ⟨rb, roff, rfl, hat⟩ := rq_cells (H.out.below HBE.out) k hkb
      have HSNOC : Hid ((rs.take (k + 1)).foldl encReq st0 = encReq ((rs.take k).foldl encReq st0) rs[k]) := Lib.hid (by rw [List.take_succ_eq_append_getElem hkb, List.foldl_append]; rfl)
      have HLEN : Hid (((rs.take k).foldl encReq st0).1.length + 100 + rs[k].h.size + rs[k].s.size ≤ 2000000000) := Lib.hid (by
       have h1 := encFold_len (rs.take k) st0
       have h2 := rqSum_at rs k hkb
       have h3 : (rs.take k).length ≤ 64 := by simp; omega
       have := HL0.out
       have := HS.out
       omega)
      generalize (rs.take k).foldl encReq st0 = st at *
      generalize rs[k] = r at *
      obtain ⟨c0, c1, c2, c3, c4, c5, c6, c7⟩ := hat.all
      clear hat
      have j0 : (0 : Int) ≤ (k : Int) := by omega
      have j1 : (k : Int) < (n : Int) := by omega
      go_wp2_with fail
      obtain ⟨wA, hwA⟩ : ∃ wA, wA = wr.alloc (.cells #[.int .i64 r.k, .int .i64 r.t, .int .i64 r.a, .int .i64 r.n, .int .i64 r.i, .int .i64 r.d, .string r.h, .string r.s] 52) := ⟨_, rfl⟩
      rw [← hwA]
      have hbl : wA.heap[wr.heap.size]? = some (.cells r.cells 52 (0, 0)) := by subst hwA; exact heap_alloc_new wr _
      have hbw : Below w.heap.size w wA := by subst hwA; exact HBE.out.alloc HBE.out.size _
      have hba : BufAt 147 wA (w.heap.size + 1) v' st.1 (.bool st.2) := by subst hwA; exact HBA.out.below ((Below.refl _ _).alloc (Nat.le_refl _) _)
      have hsz : w.heap.size < wr.heap.size := by have := blk_lt HBA.out.1; omega
      have hnf : ¬ fpE (w.heap.size + 1) v' wr.heap.size := fun hf => by
       have h1 := HBA.out.lt _ hf
       omega
      have HBA2 := Lib.hid hba
      have HBW := Lib.hid hbw
      have HNF := Lib.hid hnf
      have HCD : Hid (∀ w', Keeps (fpE (w.heap.size + 1) v') wA.drew w' → (w'.cell? ⟨wr.heap.size, 0, none⟩ = some (.int .i64 r.k) ∧ w'.cell? ⟨wr.heap.size, 1, none⟩ = some (.int .i64 r.t) ∧ w'.cell? ⟨wr.heap.size, 2, none⟩ = some (.int .i64 r.a) ∧ w'.cell? ⟨wr.heap.size, 3, none⟩ = some (.int .i64 r.n) ∧ w'.cell? ⟨wr.heap.size, 4, none⟩ = some (.int .i64 r.i) ∧ w'.cell? ⟨wr.heap.size, 5, none⟩ = some (.int .i64 r.d) ∧ w'.cell? ⟨wr.heap.size, 6, none⟩ = some (.string r.h) ∧ w'.cell? ⟨wr.heap.size, 7, none⟩ = some (.string r.s))) := Lib.hid (fun w' hk' => by
       have hb' : w'.heap[wr.heap.size]? = some (.cells r.cells 52 (0, 0)) := (hk'.block _ (blk_lt hbl) hnf).trans hbl
       refine ⟨?_, ?_, ?_, ?_, ?_, ?_, ?_, ?_⟩
       all_goals
        rw [blk_cell hb']; rfl)
      have HEV := Lib.hid (fun w1 => req_event r w1)
      unfold RQ.cells at HEV
      clear hwA hbl hbw hba hnf c0 c1 c2 c3 c4 c5 c6 c7
      obtain ⟨hn1, hn2⟩ := hasN_in r.k false
      have HN1 := Lib.hid hn1
      have HN2 := Lib.hid hn2
      clear hn1 hn2
      obtain ⟨z0, z1, z2, z3, z4, z5, z6, z7⟩ := HCD.out wA.drew (Keeps.refl _ _)
      go_wp2_with fail
      go_region_held3 (fun w' => w'.cell? ⟨wr.heap.size, 0, none⟩ = some (.int .i64 r.k) ∧ w'.cell? ⟨wr.heap.size, 1, none⟩ = some (.int .i64 r.t) ∧ w'.cell? ⟨wr.heap.size, 2, none⟩ = some (.int .i64 r.a) ∧ w'.cell? ⟨wr.heap.size, 3, none⟩ = some (.int .i64 r.n) ∧ w'.cell? ⟨wr.heap.size, 4, none⟩ = some (.int .i64 r.i) ∧ w'.cell? ⟨wr.heap.size, 5, none⟩ = some (.int .i64 r.d) ∧ w'.cell? ⟨wr.heap.size, 6, none⟩ = some (.string r.h) ∧ w'.cell? ⟨wr.heap.size, 7, none⟩ = some (.string r.s))
       (first | go_keep | exact HCD.out _ hk5 | exact HCD.out _ (hk5.trans hk6 (fun _ h => Or.inl h)))
       ((first
         | (go_at_call 96; refine (HEV.out _).mono ?_; rintro en w5 ⟨rfl, hb5⟩; have hk5 : Keeps (fpE (w.heap.size + 1) v') wA.drew w5 := Keeps.of_below hb5; have HB5 := Lib.hid hb5)
         | (go_at_call 72; refine (has_any r.k false _).mono ?_; rintro en w6 ⟨rfl, rfl⟩)
         | (go_at_call 71; refine (out_event (w.heap.size + 1) v' st.1 st.2 r.ev (hasN r.k false) _ ((HBA2.out.keep (Keeps.refl (fun _ => False) wA).drew (fun _ _ f => f)).below HB5.out) HN1.out (by have h1 : r.ev.h.size = r.h.size := rfl; have h2 : r.ev.s.size = r.s.size := rfl; have := HLEN.out; have := HN2.out; omega)).mono ?_; rintro en w6 ⟨rfl, v6, hb6, hk6, hf6⟩)))
      have HB6 := Lib.hid hb6
      have HBE6 : Hid (Below w.heap.size w w6) := Lib.hid (by
       have h5 : Below w.heap.size w w5 := HBW.out.trans (((Keeps.refl (fun _ => False) wA).drew.below (B := w.heap.size) HBW.out.size (fun _ f => f.elim)).trans (HB5.out.mono (by have := HBW.out.size; simpa using this)))
       exact h5.trans (hk6.below h5.size (fun i hi => by rcases hi with rfl | hi; omega; have := HFR.out i hi; omega)))
      have HF6 : Hid (∀ g, v6.ownBlock = some g → w.heap.size < g) := Lib.hid (fun g hg => by
       rcases hf6 g hg with h | h
       · exact HFR.out g h
       · have h1 := HB5.out.size
         have h2 := blk_lt HBA2.out.1
         simp at h1
         omega)
      clear hb5 hk5 hb6 hk6 hf6
      go_wp2
      go_roundw
      case rel => exact ⟨k + 1, v6, by omega, by go_num, by rw [HSNOC.out]; exact HB6.out, HBE6.out, HF6.out⟩
      case measure => simp [intOf]; omega
    · obtain rfl : k = n := by omega
      have HTK : Hid (encF seen rs = outEnd (((rs.take k).foldl encReq st0).1, ((rs.take k).foldl encReq st0).2)) := Lib.hid (by
       rw [HF.out, HST.out, List.take_of_length_le (by rw [HN.out]; exact Nat.le_refl _)])
      generalize (rs.take k).foldl encReq st0 = st at *
      have HOW := Lib.hid HBA.out.2.1
      clear hlt
      go_wp2_with fail
      refine (out_done _ v' st.1 st.2 _ HBA.out).mono ?_
      rintro en w5 ⟨⟨ao5, cap5, rfl, hv5⟩, rfl⟩
      have HV := Lib.hid hv5
      clear hv5
      go_wp2
      go_ret2
      rw [HTK.out]
      refine ⟨ao5, cap5, rfl, ?_, HBE.out, fun a ha => ?_, ?_⟩
      · rcases HV.out with h | ⟨h, _⟩
        · subst h
          unfold outEnd at *
          split at HOW
          · rename_i hb; rw [if_pos hb]; exact Or.inl rfl
          · rename_i hb; rw [if_neg hb]; exact (owns_at HOW.out).2.1
        · exact Or.inl h
      · rcases HV.out with h | ⟨_, h, _⟩
        · have := HFR.out a.block (by rw [← h, ha]; rfl)
          omega
        · rw [h] at ha; cases ha
      · rcases HV.out with h | ⟨h, _, h2⟩
        · exact own_bounds HOW.out h
        · rw [h, h2]; exact ⟨Nat.le_refl _, Nat.zero_le _⟩
instance : Inhabited EV := ⟨⟨0, 0, 0, 0, 0, 0, 0, ⟨#[]⟩, ⟨#[]⟩⟩⟩
def EV.at_ (r : EV) (w : World) (b o : Nat) : Prop := ∀ j v, r.cells[j]? = some v → w.cell? ⟨b, o + j, none⟩ = some v
theorem EV.at_.all {r : EV} {w : World} {b o : Nat} (h : r.at_ w b o) : w.cell? ⟨b, o, none⟩ = some (.int .i64 r.k) ∧ w.cell? ⟨b, o + 1, none⟩ = some (.int .i64 r.f) ∧ w.cell? ⟨b, o + 2, none⟩ = some (.int .i64 r.t) ∧ w.cell? ⟨b, o + 3, none⟩ = some (.int .i64 r.a) ∧ w.cell? ⟨b, o + 4, none⟩ = some (.int .i64 r.n) ∧
 w.cell? ⟨b, o + 5, none⟩ = some (.int .i64 r.i) ∧ w.cell? ⟨b, o + 6, none⟩ = some (.int .i64 r.d) ∧ w.cell? ⟨b, o + 7, none⟩ = some (.string r.h) ∧ w.cell? ⟨b, o + 8, none⟩ = some (.string r.s) :=
 ⟨h 0 _ rfl, h 1 _ rfl, h 2 _ rfl, h 3 _ rfl, h 4 _ rfl, h 5 _ rfl, h 6 _ rfl, h 7 _ rfl, h 8 _ rfl⟩
theorem EV.at_.below {w w' : World} {b o : Nat} {r : EV} (h : r.at_ w b o) (hb : Below w.heap.size w w') : r.at_ w' b o := fun j v hv => by
 have h1 := h j v hv
 rw [hb.cell (World.block_lt_of_cell? w _ h1)]; exact h1
def EvsAt (w : World) (ao : Option Addr) (rs : List EV) : Prop := rs = [] ∨ ∃ b off, ao = some ⟨b, off, none⟩ ∧ ∀ i (h : i < rs.length), rs[i].at_ w b (off + i * 9)
theorem EvsAt.below {w w' : World} {ao : Option Addr} {rs : List EV} (h : EvsAt w ao rs) (hb : Below w.heap.size w w') : EvsAt w' ao rs := by
 rcases h with h | ⟨b, off, h1, h2⟩
 · exact Or.inl h
 · exact Or.inr ⟨b, off, h1, fun i hi => (h2 i hi).below hb⟩
theorem ev_cells {w : World} {ao : Option Addr} {rs : List EV} (h : EvsAt w ao rs) (i : Nat) (hi : i < rs.length) : ∃ b off, ao = some ⟨b, off, none⟩ ∧ rs[i].at_ w b (off + i * 9) := by
 rcases h with h | ⟨b, off, h1, h2⟩
 · rw [h] at hi; simp at hi
 · exact ⟨b, off, h1, h2 i hi⟩
def RepsAt (w : World) (ao : Option Addr) (rs : List (Int × Int)) : Prop := rs = [] ∨ ∃ b off, ao = some ⟨b, off, none⟩ ∧ ∀ i (h : i < rs.length), w.cell? ⟨b, off + i * 2, none⟩ = some (.int .i64 rs[i].1) ∧ w.cell? ⟨b, off + i * 2 + 1, none⟩ = some (.int .i64 rs[i].2)
theorem RepsAt.below {w w' : World} {ao : Option Addr} {rs : List (Int × Int)} (h : RepsAt w ao rs) (hb : Below w.heap.size w w') : RepsAt w' ao rs := by
 rcases h with h | ⟨b, off, h1, h2⟩
 · exact Or.inl h
 · refine Or.inr ⟨b, off, h1, fun i hi => ?_⟩
   obtain ⟨c0, c1⟩ := h2 i hi
   exact ⟨by rw [hb.cell (World.block_lt_of_cell? w _ c0)]; exact c0, by rw [hb.cell (World.block_lt_of_cell? w _ c1)]; exact c1⟩
theorem rep_cells {w : World} {ao : Option Addr} {rs : List (Int × Int)} (h : RepsAt w ao rs) (i : Nat) (hi : i < rs.length) : ∃ b off, ao = some ⟨b, off, none⟩ ∧ w.cell? ⟨b, off + i * 2, none⟩ = some (.int .i64 rs[i].1) ∧ w.cell? ⟨b, off + i * 2 + 1, none⟩ = some (.int .i64 rs[i].2) := by
 rcases h with h | ⟨b, off, h1, h2⟩
 · rw [h] at hi; simp at hi
 · exact ⟨b, off, h1, h2 i hi⟩
def OutAt (w0 w : World) (p : Nat) (v : Value) (st : List Int × Bool) : Prop :=
 BufAt 147 w p v st.1 (.bool st.2) ∧ Below w0.heap.size w0 w ∧ w0.heap.size < p ∧ (∀ g, v.ownBlock = some g → w0.heap.size < g) ∧ w0.heap.size < w.heap.size
theorem OutAt.post {w0 w w' : World} {p : Nat} {v : Value} {st st' : List Int × Bool} (h : OutAt w0 w p v st) (hp : BufPost 147 w p v st'.1 (.bool st'.2) w') : ∃ v', OutAt w0 w' p v' st' ∧ Keeps (fpE p v) w w' := by
 obtain ⟨h1, h2, h3, h4, h5⟩ := h
 obtain ⟨v', a1, a2, a3⟩ := hp
 have hs := a2.size
 refine ⟨v', ⟨a1, h2.trans (a2.below h2.size (fun k hk => by rcases hk with rfl | hk; omega; have := h4 k hk; omega)), h3, fun g hg => ?_, by omega⟩, a2⟩
 rcases a3 g hg with e | e
 · exact h4 g e
 · omega
theorem OutAt.below {w0 w w' : World} {p : Nat} {v : Value} {st : List Int × Bool} (h : OutAt w0 w p v st) (hb : Below w.heap.size w w') : OutAt w0 w' p v st :=
 ⟨h.1.below hb, h.2.1.trans (hb.mono h.2.1.size), h.2.2.1, h.2.2.2.1, Nat.lt_of_lt_of_le h.2.2.2.2 hb.size⟩
theorem OutAt.head {w0 w w' : World} {p : Nat} {v : Value} {st : List Int × Bool} (h : OutAt w0 w p v st) (hk : Keeps (fpE p v) w w') {o : Obj} (ho : w.heap[w0.heap.size]? = some o) : w'.heap[w0.heap.size]? = some o :=
 (hk.block _ (blk_lt ho) (fun hf => by rcases hf with hf | hf; have := h.2.2.1; omega; have := h.2.2.2.1 _ hf; omega)).trans ho
theorem outEnd_post {w0 w : World} {p : Nat} {v : Value} {st : List Int × Bool} (h : OutAt w0 w p v st) (ao : Option Addr) (cap : Nat) (hv : .slice ao (outEnd st).1.length cap = v ∨ (outEnd st).1 = [] ∧ ao = none ∧ cap = 0) : EncBPost w0 (outEnd st) (.returned (.tuple #[.slice ao (outEnd st).1.length cap, .int .i64 (outEnd st).2])) w := by
 obtain ⟨h1, h2, h3, h4, h5⟩ := h
 refine ⟨ao, cap, rfl, ?_, h2, fun a ha => ?_, ?_⟩
 · rcases hv with hv | ⟨hv, _⟩
   · subst hv
     have ho := h1.2.1
     unfold outEnd at *
     split at ho
     · rename_i hb; rw [if_pos hb]; exact Or.inl rfl
     · rename_i hb; rw [if_neg hb]; exact (owns_at ho).2.1
   · exact Or.inl hv
 · rcases hv with hv | ⟨_, hv, _⟩
   · have := h4 a.block (by rw [← hv, ha]; rfl)
     omega
   · rw [hv] at ha; cases ha
 · rcases hv with hv | ⟨hv, _, h2⟩
   · exact own_bounds h1.2.1 hv
   · rw [hv, h2]; exact ⟨Nat.le_refl _, Nat.zero_le _⟩
def eqS (a b : ByteArray) : Bool := a.toList == b.toList
def eqRQ (r q : RQ) : Bool := r.k == q.k && (r.t == q.t && (r.a == q.a && (r.n == q.n && (r.i == q.i && (r.d == q.d && (eqS r.h q.h && eqS r.s q.s))))))
def eqEV (r q : EV) : Bool := r.k == q.k && (r.f == q.f && (r.t == q.t && (r.a == q.a && (r.n == q.n && (r.i == q.i && (r.d == q.d && (eqS r.h q.h && eqS r.s q.s)))))))
def allF {α : Type} (f : α → α → Bool) : List α → List α → Bool
 | x :: xs, y :: ys => f x y && allF f xs ys
 | _, _ => true
def allB {α : Type} (f : α → α → Bool) (xs ys : List α) : Bool := decide (xs.length = ys.length) && allF f xs ys
theorem allF_snoc {α : Type} (f : α → α → Bool) : ∀ (xs ys : List α) (k : Nat) (hx : k < xs.length) (hy : k < ys.length), allF f (xs.take (k + 1)) (ys.take (k + 1)) = (allF f (xs.take k) (ys.take k) && f xs[k] ys[k])
 | [], _, k, hx, _ => by simp at hx
 | _ :: _, [], k, _, hy => by simp at hy
 | x :: xs, y :: ys, 0, _, _ => by simp [allF]
 | x :: xs, y :: ys, k + 1, hx, hy => by
   have ih := allF_snoc f xs ys k (by simpa using hx) (by simpa using hy)
   simp only [List.take_succ_cons, allF, ih, List.getElem_cons_succ, Bool.and_assoc]
theorem allF_at {α : Type} (f : α → α → Bool) : ∀ (xs ys : List α) (k : Nat) (hx : k < xs.length) (hy : k < ys.length), f xs[k] ys[k] = false → allF f xs ys = false
 | [], _, k, hx, _, _ => by simp at hx
 | _ :: _, [], k, _, hy, _ => by simp at hy
 | x :: xs, y :: ys, 0, _, _, h => by simp only [List.getElem_cons_zero] at h; simp [allF, h]
 | x :: xs, y :: ys, k + 1, hx, hy, h => by
   have ih := allF_at f xs ys k (by simpa using hx) (by simpa using hy) (by simpa using h)
   simp [allF, ih]
set_option maxRecDepth 100000 in
set_option maxHeartbeats 1000000 in
theorem neq_ev (r q : EV) (w : World) : (binOp .neq 55 (.agg r.cells) (.agg q.cells)).run Tryz.prog w = .ok (.bool (!eqEV r q)) w := by
 unfold EV.cells eqEV eqS
 cases h0 : (r.k == q.k)
 · go_simp; try simp [*]
 · skip
   cases h1 : (r.f == q.f)
   · go_simp; try simp [*]
   · skip
     cases h2 : (r.t == q.t)
     · go_simp; try simp [*]
     · skip
       cases h3 : (r.a == q.a)
       · go_simp; try simp [*]
       · skip
         cases h4 : (r.n == q.n)
         · go_simp; try simp [*]
         · skip
           cases h5 : (r.i == q.i)
           · go_simp; try simp [*]
           · skip
             cases h6 : (r.d == q.d)
             · go_simp; try simp [*]
             · skip
               cases h7 : (r.h.toList == q.h.toList)
               · go_simp; try simp [*]
               · skip
                 cases h8 : (r.s.toList == q.s.toList)
                 · go_simp; try simp [*]
                 · go_simp; try simp [*]
def RP.cells (r : Int × Int) : Array Value := #[.int .i64 r.1, .int .i64 r.2]
def RP.at_ (r : Int × Int) (w : World) (b o : Nat) : Prop := w.cell? ⟨b, o, none⟩ = some (.int .i64 r.1) ∧ w.cell? ⟨b, o + 1, none⟩ = some (.int .i64 r.2)
theorem RP.at_.all {r : Int × Int} {w : World} {b o : Nat} (h : RP.at_ r w b o) : w.cell? ⟨b, o, none⟩ = some (.int .i64 r.1) ∧ w.cell? ⟨b, o + 1, none⟩ = some (.int .i64 r.2) := h
theorem rep_cells2 {w : World} {ao : Option Addr} {rs : List (Int × Int)} (h : RepsAt w ao rs) (i : Nat) (hi : i < rs.length) : ∃ b off, ao = some ⟨b, off, none⟩ ∧ RP.at_ rs[i] w b (off + i * 2) := rep_cells h i hi
def eqRP (r q : Int × Int) : Bool := r.1 == q.1 && r.2 == q.2
def sameA (c1 s1 : Int) (xs : List (Int × Int)) (es : List EV) (c2 s2 : Int) (ys : List (Int × Int)) (fs : List EV) : Bool := c1 == c2 && (s1 == s2 && (allB eqRP xs ys && allB eqEV es fs))
set_option maxRecDepth 100000 in
set_option maxHeartbeats 1000000 in
theorem neq_rep (r q : Int × Int) (w : World) : (binOp .neq 50 (.agg (RP.cells r)) (.agg (RP.cells q))).run Tryz.prog w = .ok (.bool (!eqRP r q)) w := by
 unfold RP.cells eqRP
 cases h0 : (r.1 == q.1)
 · go_simp; try simp [*]
 · skip
   cases h1 : (r.2 == q.2)
   · go_simp; try simp [*]
   · go_simp; try simp [*]
theorem numOut_snd (st : List Int × Bool) (n z : Int) : (numOut st n z).2 = (st.2 || !fitsB n z) := by
 unfold numOut
 cases fitsB n z <;> simp
theorem numOut_fst (st : List Int × Bool) (n z : Int) : (numOut st n z).1 = st.1 ++ (if fitsB n z = true then putB n z.toNat else []) := by
 unfold numOut
 cases fitsB n z <;> simp
def emptyB (s : ByteArray) : Bool := s.toList.isEmpty
theorem emptyB_nil : emptyB ⟨#[]⟩ = true := by simp [emptyB, ByteArray.toList_eq]
theorem emptyB_iff (s : ByteArray) : emptyB s = true ↔ s.size = 0 := by
 unfold emptyB
 rw [ByteArray.toList_eq, List.isEmpty_iff_length_eq_zero, Array.length_toList]
 exact Iff.rfl
def okB (r : RQ) : Bool :=
 if r.k = 1 then fitsB r.t 1 && fitsB r.a 1 && fitsB r.n 8 && decide (r.i = 0 ∧ r.d = 0) && (emptyB r.h && emptyB r.s)
 else if r.k = 2 then fitsB r.t 1 && fitsB r.a 1 && fitsB r.n 8 && decide (r.h.size = 32) && (fitsB r.d 8 && tickB r.d) && decide (r.i = 0) && emptyB r.s
 else if r.k = 3 then fitsB r.i 2 && decide (r.s.size = 32) && decide (r.t = 0 ∧ r.a = 0 ∧ r.n = 0 ∧ r.d = 0) && emptyB r.h
 else if r.k = 4 then fitsB r.i 2 && decide (r.t = 0 ∧ r.a = 0 ∧ r.n = 0 ∧ r.d = 0) && (emptyB r.h && emptyB r.s)
 else false
theorem tickB_0 : tickB 0 = true := by decide
theorem fits_small : fitsB 1 1 = true ∧ fitsB 2 1 = true ∧ fitsB 3 1 = true ∧ fitsB 4 1 = true := by decide
theorem ne32 (n : Nat) : ((n : Int) != 32) = !decide (n = 32) := by
 by_cases h : n = 32
 · subst h; rfl
 · have : (n : Int) ≠ 32 := by omega
   simp [h, this]
theorem sgn : numSign 116 = some (2, 1) ∧ numSign 97 = some (3, 1) ∧ numSign 110 = some (4, 8) ∧ numSign 105 = some (5, 2) ∧ numSign 100 = some (6, 8) ∧ numSign 102 = some (1, 1) ∧ numSign 104 = none ∧ numSign 115 = none ∧ txtSign 104 = 7 ∧ txtSign 115 = 8 := by decide
set_option maxHeartbeats 1000000 in
theorem encReq_bad (st : List Int × Bool) (r : RQ) : (encReq st r).2 = (st.2 || !okB r) := by
 obtain ⟨s1, s2, s3, s4, s5, s6, s7, s8, s9, s10⟩ := sgn
 obtain ⟨f1, f2, f3, f4⟩ := fits_small
 obtain ⟨k, t, a, n, i, d, h, s⟩ := r
 unfold encReq evOut evBody evHead
 by_cases h1 : k = 1
 · subst h1
   simp only [hasN, RQ.ev, EV.setN, List.foldl_cons, List.foldl_nil, stepEv, s1, s2, s3, numOut_snd, EV.num, EV.zero, okB, if_true, Bool.false_eq_true, if_false, List.isEmpty_cons, f1]
   by_cases hd : d = 0
   · subst hd
     rw [tickB_0]
     simp only [emptyB]
     cases st.2 <;> cases fitsB t 1 <;> cases fitsB a 1 <;> cases fitsB n 8 <;> simp
   · simp only [emptyB]
     cases st.2 <;> cases fitsB t 1 <;> cases fitsB a 1 <;> cases fitsB n 8 <;> cases tickB d <;> simp [hd]
 · by_cases h2 : k = 2
   · subst h2
     simp only [hasN, RQ.ev, EV.setN, EV.setT, EV.txt, List.foldl_cons, List.foldl_nil, stepEv, s1, s2, s3, s5, s7, s9, numOut_snd, EV.num, EV.zero, okB, if_true, Bool.false_eq_true, if_false, List.isEmpty_cons, f2, ne32, Int.reduceEq]
     have hn := emptyB_nil
     unfold emptyB at hn ⊢
     rw [hn]
     cases st.2 <;> cases fitsB t 1 <;> cases fitsB a 1 <;> cases fitsB n 8 <;> cases fitsB d 8 <;> cases tickB d <;> simp [Bool.or_assoc]
   · by_cases h3 : k = 3
     · subst h3
       simp only [hasN, RQ.ev, EV.setN, EV.setT, EV.txt, List.foldl_cons, List.foldl_nil, stepEv, s4, s8, s10, numOut_snd, EV.num, EV.zero, okB, if_true, Bool.false_eq_true, if_false, List.isEmpty_cons, f3, ne32, Int.reduceEq, Nat.reduceEqDiff]
       have hn := emptyB_nil
       unfold emptyB at hn ⊢
       rw [hn]
       by_cases hd : d = 0
       · subst hd
         rw [tickB_0]
         by_cases hs : s.size = 32 <;> cases st.2 <;> cases fitsB i 2 <;> cases h.toList.isEmpty <;> simp [hs]
       · cases st.2 <;> cases fitsB i 2 <;> cases tickB d <;> simp [hd]
     · by_cases h4 : k = 4
       · subst h4
         simp only [hasN, RQ.ev, EV.setN, List.foldl_cons, List.foldl_nil, stepEv, s4, numOut_snd, EV.num, EV.zero, okB, if_true, Bool.false_eq_true, if_false, List.isEmpty_cons, f4, Int.reduceEq]
         by_cases hd : d = 0
         · subst hd
           rw [tickB_0]
           simp only [emptyB]
           cases st.2 <;> cases fitsB i 2 <;> simp
         · simp only [emptyB]
           cases st.2 <;> cases fitsB i 2 <;> cases tickB d <;> simp [hd]
       · simp [hasN, h1, h2, h3, h4, RQ.ev, okB, numOut_snd]
end Go.Proofs.YtkaciaehlibidaaGreat
