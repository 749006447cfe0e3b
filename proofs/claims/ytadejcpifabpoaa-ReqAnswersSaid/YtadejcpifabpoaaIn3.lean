/- Contract of package req's reader: event. -/
import Derived.Test.YtadejcpifabpoaaIn2
import Derived.Deep.LoopGhost
namespace Go.Proofs.Ytadejcpifabpoaa
open Go.RowKit
set_option linter.unusedVariables false

/-- An event that is being read: the reader p, the event E, the iterator q at the k-th sign, the result's box R. -/
structure RdAt (w0 wr : World) (p g R E q : Nat) (nm : List Int) (k : Nat) (x : EV × InS) : Prop where
  rd : InAt 99 wr p g x.2
  ev : wr.heap[E]? = some (.cells x.1.cells 84 (0, 0))
  iter : wr.heap[q]? = some (.stringIter (bytesOf nm) k)
  res : wr.heap[R]? = some (.cells ev0.cells 84 (0, 0))
  keep : Keeps (fun i => i = p) w0 wr
  bR : w0.heap.size ≤ R
  bE : w0.heap.size ≤ E
  bq : w0.heap.size ≤ q
  pl : p < w0.heap.size
  gl : g < w0.heap.size
  RE : R ≠ E
section
variable {w0 wr w' : World} {p g R E q : Nat} {nm : List Int} {k : Nat} {x : EV × InS}
theorem RdAt.far (h : RdAt w0 wr p g R E q nm k x) : E ≠ q ∧ R ≠ q := by
  refine ⟨fun e => ?_, fun e => ?_⟩
  · have h1 := h.ev; rw [e, h.iter] at h1; cases h1
  · have h1 := h.res; rw [e, h.iter] at h1; cases h1
theorem RdAt.next (h : RdAt w0 wr p g R E q nm k x) (hi : w'.heap[q]? = some (.stringIter (bytesOf nm) (k + 1))) (hk : Keeps (fun i => i = q) wr w') : RdAt w0 w' p g R E q nm (k + 1) x := by
  obtain ⟨f1, f2⟩ := h.far
  have a1 := h.pl; have a2 := h.gl; have a3 := h.bq
  exact ⟨h.rd.keep hk (by omega) (by omega), (hk.block E (blk_lt h.ev) f1).trans h.ev, hi, (hk.block R (blk_lt h.res) f2).trans h.res, h.keep.trans hk (fun i hi => Or.inr (by subst hi; exact h.bq)), h.bR, h.bE, h.bq, h.pl, h.gl, h.RE⟩
theorem RdAt.read (h : RdAt w0 wr p g R E q nm k x) {st : InS} (hr : InAt 99 w' p g st) (hk : Keeps (fun i => i = p) wr w') : RdAt w0 w' p g R E q nm k (x.1, st) := by
  have a1 := h.pl; have a3 := h.bq; have a4 := h.bE; have a5 := h.bR
  exact ⟨hr, (hk.block E (blk_lt h.ev) (by omega)).trans h.ev, (hk.block q (blk_lt h.iter) (by omega)).trans h.iter, (hk.block R (blk_lt h.res) (by omega)).trans h.res, h.keep.trans hk (fun i hi => Or.inl hi), h.bR, h.bE, h.bq, h.pl, h.gl, h.RE⟩
theorem RdAt.setE (h : RdAt w0 wr p g R E q nm k x) (j : Nat) (u : Value) (e' : EV) (he : x.1.cells.setIfInBounds j u = e'.cells) : RdAt w0 (wr.setCell ⟨E, j, none⟩ u) p g R E q nm k (e', x.2) := by
  obtain ⟨f1, f2⟩ := h.far
  have a1 := h.pl; have a2 := h.gl; have a4 := h.bE
  have hk : Keeps (fun i => i = E) wr (wr.setCell ⟨E, j, none⟩ u) := (Keeps.refl (fun i => i = E) wr).setCell (p := ⟨E, j, none⟩) (Or.inl rfl) u
  exact ⟨h.rd.keep hk (by omega) (by omega), by rw [← he]; exact blk_set h.ev j u, (hk.block q (blk_lt h.iter) (Ne.symm f1)).trans h.iter, (hk.block R (blk_lt h.res) h.RE).trans h.res, h.keep.trans hk (fun i hi => Or.inr (by subst hi; exact h.bE)), h.bR, h.bE, h.bq, h.pl, h.gl, h.RE⟩
theorem RdAt.cellE (h : RdAt w0 wr p g R E q nm k x) (j : Nat) : wr.cell? ⟨E, j, none⟩ = x.1.cells[j]? ∧ wr.frozen? ⟨E, j, none⟩ = false := ⟨blk_cell h.ev j, blk_frozen h.ev j⟩
theorem RdAt.cellR (h : RdAt w0 wr p g R E q nm k x) (j : Nat) : wr.cell? ⟨R, j, none⟩ = ev0.cells[j]? ∧ wr.frozen? ⟨R, j, none⟩ = false := ⟨blk_cell h.res j, blk_frozen h.res j⟩
end
theorem RdAt.close {w0 wr wF : World} {p g R E q : Nat} {nm : List Int} {k : Nat} {e' : EV} {st' : InS} (h : RdAt w0 wr p g R E q nm k (e', st')) (hw : wF = (((((((((wr.setCell ⟨R, 0, none⟩ (.int .i64 e'.k)).setCell ⟨R, 1, none⟩ (.int .i64 e'.f)).setCell ⟨R, 2, none⟩ (.int .i64 e'.t)).setCell ⟨R, 3, none⟩ (.int .i64 e'.a)).setCell ⟨R, 4, none⟩ (.int .i64 e'.n)).setCell ⟨R, 5, none⟩ (.int .i64 e'.i)).setCell ⟨R, 6, none⟩ (.int .i64 e'.d)).setCell ⟨R, 7, none⟩ (.string e'.h)).setCell ⟨R, 8, none⟩ (.string e'.s))) :
    InAt 99 wF p g st' ∧ Keeps (fun i => i = p) w0 wF ∧ wF.heap[R]? = some (.cells e'.cells 84 (0, 0)) := by
  have a1 := h.pl; have a2 := h.gl; have a5 := h.bR
  have k0 := Keeps.refl (fun i => i = R) wr
  have k1 := k0.setCell (p := ⟨R, 0, none⟩) (Or.inl rfl) (.int .i64 e'.k)
  have k2 := k1.setCell (p := ⟨R, 1, none⟩) (Or.inl rfl) (.int .i64 e'.f)
  have k3 := k2.setCell (p := ⟨R, 2, none⟩) (Or.inl rfl) (.int .i64 e'.t)
  have k4 := k3.setCell (p := ⟨R, 3, none⟩) (Or.inl rfl) (.int .i64 e'.a)
  have k5 := k4.setCell (p := ⟨R, 4, none⟩) (Or.inl rfl) (.int .i64 e'.n)
  have k6 := k5.setCell (p := ⟨R, 5, none⟩) (Or.inl rfl) (.int .i64 e'.i)
  have k7 := k6.setCell (p := ⟨R, 6, none⟩) (Or.inl rfl) (.int .i64 e'.d)
  have k8 := k7.setCell (p := ⟨R, 7, none⟩) (Or.inl rfl) (.string e'.h)
  have k9 := k8.setCell (p := ⟨R, 8, none⟩) (Or.inl rfl) (.string e'.s)
  have hk : Keeps (fun i => i = R) wr wF := by rw [hw]; exact k9
  refine ⟨h.rd.keep hk (by omega) (by omega), h.keep.trans hk (fun i hi => Or.inr (by subst hi; exact a5)), ?_⟩
  rw [hw]
  have b0 := blk_set h.res 0 (.int .i64 e'.k)
  have b1 := blk_set b0 1 (.int .i64 e'.f)
  have b2 := blk_set b1 2 (.int .i64 e'.t)
  have b3 := blk_set b2 3 (.int .i64 e'.a)
  have b4 := blk_set b3 4 (.int .i64 e'.n)
  have b5 := blk_set b4 5 (.int .i64 e'.i)
  have b6 := blk_set b5 6 (.int .i64 e'.d)
  have b7 := blk_set b6 7 (.string e'.h)
  have b8 := blk_set b7 8 (.string e'.s)
  rw [b8]
  simp [EV.cells, ev0]
def EvIn (w : World) (p g : Nat) (ev : Bool) (st : InS) (e : Ending) (w' : World) : Prop := e = .returned (.agg (evIn ev st).1.cells) ∧ InAt 99 w' p g (evIn ev st).2 ∧ Keeps (fun i => i = p) w w'
theorem foldIn_snoc (nm : List Int) (x0 : EV × InS) (k : Nat) (h : k < nm.length) : (nm.take (k + 1)).foldl stepIn x0 = stepIn ((nm.take k).foldl stepIn x0) nm[k] := by
  rw [List.take_succ_eq_append_getElem h, List.foldl_append]; rfl

theorem bytesOf_str (zs : List Int) : bytesOf zs = strOfNums zs := by
  apply ByteArray.ext
  apply Array.ext'
  rw [strOfNums_data]
  simp [bytesOf]
theorem evIn_def (ev : Bool) (st : InS) : evIn ev st = (hasN (inNum 1 st).1 ev).foldl stepIn (ev0.setN (inNum 1 st).1 0, (inNum 1 st).2) := rfl

set_option maxRecDepth 100000 in
set_option maxHeartbeats 4000000 in
theorem in_event (p g : Nat) (ev : Bool) (st : InS) (w : World) (h : InAt 99 w p g st) :
    Calls Try.prog 66 #[.pointer (some ⟨p, 0, none⟩), .bool ev] w (EvIn w p g ev st) := by
  obtain ⟨w1, hw1⟩ : ∃ w1, w1 = w.alloc (.cells #[.int .i64 0, .int .i64 0, .int .i64 0, .int .i64 0, .int .i64 0, .int .i64 0, .int .i64 0, .string ⟨#[]⟩, .string ⟨#[]⟩] 84) := ⟨_, rfl⟩
  have hb1 : Below w.heap.size w w1 := by rw [hw1]; exact (Below.refl _ _).alloc (Nat.le_refl _) _
  have HN := Lib.hid (in_num p g 1 st w1 (h.below hb1) (by omega))
  have HB1 := Lib.hid hb1
  have HR1 : Hid (w1.heap[w.heap.size]? = some (.cells ev0.cells 84 (0, 0))) := Lib.hid (by rw [hw1]; exact heap_alloc_new w _)
  have HW1 := Lib.hid hw1
  have hpl := h.lt
  obtain ⟨hgl, hgp⟩ := h.glt
  have HDEF := Lib.hid (evIn_def ev st)
  clear h hw1 hb1
  go_enter Try.func66, Try.ntmps66
  go_wp2_with fail
  rw [← HW1.out]
  refine HN.out.mono ?_
  rintro en w2 ⟨rfl, hi2, hk2⟩
  have HI2 := Lib.hid hi2
  have HK2 := Lib.hid ((Keeps.of_below (S := fun i => i = p) HB1.out).trans hk2 (fun _ h => Or.inl h))
  have HR2 : Hid (w2.heap[w.heap.size]? = some (.cells ev0.cells 84 (0, 0))) := Lib.hid ((hk2.block _ (blk_lt HR1.out) (by omega)).trans HR1.out)
  generalize hX : inNum 1 st = X at *
  obtain ⟨kk, st1⟩ := X
  clear hi2 hk2 hX
  go_wp2_with (go_at_call 54; refine (has_any kk ev _).mono ?_; rintro en w4 ⟨rfl, rfl⟩)
  obtain ⟨w5, hw5⟩ : ∃ w5, w5 = (w2.alloc (.cells #[.int .i64 kk, .int .i64 0, .int .i64 0, .int .i64 0, .int .i64 0, .int .i64 0, .int .i64 0, .string ⟨#[]⟩, .string ⟨#[]⟩] 84)).iter (bytesOf (hasN kk ev)) 0 := ⟨_, rfl⟩
  rw [← hw5]
  have HE0 : Hid (RdAt w w5 p g w.heap.size w2.heap.size (w2.heap.size + 1) (hasN kk ev) 0 (ev0.setN kk 0, st1)) := Lib.hid (by
    have hs := HK2.out.size
    have hr2 := blk_lt HR2.out
    have e1 : (w2.alloc (.cells #[.int .i64 kk, .int .i64 0, .int .i64 0, .int .i64 0, .int .i64 0, .int .i64 0, .int .i64 0, .string ⟨#[]⟩, .string ⟨#[]⟩] 84)).heap.size = w2.heap.size + 1 := by simp
    have h25 : Below w2.heap.size w2 w5 := by subst hw5; exact ((Below.refl _ _).alloc (Nat.le_refl _) _).alloc (by omega) _
    refine ⟨HI2.out.below h25, ?_, ?_, (h25.block _ hr2).trans HR2.out, HK2.out.trans (Keeps.of_below (S := fun _ => False) h25) (fun _ f => f.elim), Nat.le_refl _, by omega, by omega, hpl, hgl, by omega⟩
    · subst hw5; exact (Below.heap_alloc _ _ _ (by omega)).trans (heap_alloc_new w2 _)
    · subst hw5; rw [← e1]; exact World.iter_heap _ _ _)
  obtain ⟨hn1, _⟩ := hasN_in kk ev
  have HNI := Lib.hid hn1
  clear hw5 hn1
  generalize hasN kk ev = nm at *
  generalize w2.heap.size = E at *
  have hR : w.heap.size = w.heap.size := rfl
  go_loopg [7] nm.length (fun gg sg wr => ∃ k, k + gg = nm.length ∧ RdAt w wr p g w.heap.size E (E + 1) nm k ((nm.take k).foldl stepIn (ev0.setN kk 0, st1)))
  case atStart => exact ⟨0, by omega, HE0.out⟩
  case round =>
    obtain ⟨k, hkg, hE⟩ := hrel
    by_cases hlt : k < nm.length
    · have hks : k < (bytesOf nm).size := by rw [bytesOf_size]; exact hlt
      have hck := HNI.out nm[k] (List.getElem_mem hlt)
      have hget := bytesOf_get nm HNI.out k hks
      obtain ⟨w6, hnx, hi6, hk6⟩ := next_step (P := Try.prog) wr (E + 1) (bytesOf nm) k hE.iter hks (by omega)
      rw [hget] at hnx
      have HE6 := Lib.hid (hE.next hi6 hk6)
      have HSN := Lib.hid (foldIn_snoc nm (ev0.setN kk 0, st1) k hlt)
      have hEl := blk_lt HE6.out.ev
      clear hget hi6 hk6 hE
      generalize (nm.take k).foldl stepIn (ev0.setN kk 0, st1) = x at *
      obtain ⟨e', st'⟩ := x
      generalize nm[k] = c at *
      cases hc : numSign c with
      | some jz =>
        obtain ⟨j, z⟩ := jz
        obtain ⟨hj1, hj2, hz1, hz2⟩ := numSign_in hc
        have HC := Lib.hid hc
        have HST := Lib.hid (show stepIn (e', st') c = (e'.setN (inNum z.toNat st').1 j, (inNum z.toNat st').2) by simp [stepIn, hc])
        obtain ⟨zz, rfl⟩ := Int.eq_ofNat_of_zero_le (show 0 ≤ z by omega)
        simp only [Int.toNat_natCast] at HST
        clear hc
        go_wp2_with (go_at_call 88; refine (number_num E c j zz _ hEl HC.out).mono ?_; rintro en w7 ⟨rfl, rfl⟩)
        refine (in_num p g zz st' w6 HE6.out.rd (by omega)).mono ?_
        rintro en w7 ⟨rfl, hi7, hk7⟩
        have HE7 := Lib.hid (HE6.out.read hi7 hk7)
        generalize inNum zz st' = y at *
        obtain ⟨v, st2⟩ := y
        obtain ⟨c7, f7⟩ := HE7.out.cellE j
        rw [EV.cell_num _ _ hj2] at c7
        clear hi7 hk7
        go_wp2
        go_roundg (gk - 1)
        case measure => omega
        case rel => exact ⟨k + 1, by omega, by rw [HSN.out, HST.out]; exact HE7.out.setE j _ _ (EV.set_num _ v _ hj2)⟩
      | none =>
        have HC := Lib.hid hc
        have HST := Lib.hid (show stepIn (e', st') c = (e'.setT (bytesOf (inBytes 32 st').1) (txtSign c), (inBytes 32 st').2) by simp only [stepIn, hc])
        have hj := txtSign_in c
        have HJ := Lib.hid hj
        have HS2 := Lib.hid (fun u : ByteArray => EV.set_txt e' u (txtSign c) HJ.out)
        have HBY := Lib.hid (in_bytes p g 32 st' w6 HE6.out.rd (by omega))
        generalize hJJ : txtSign c = j at *
        have HJJ := Lib.hid hJJ
        clear hc hj hJJ
        go_wp2_with (first
          | (go_at_call 88; refine (number_txt E c _ HC.out).mono ?_; rintro en w7 ⟨rfl, rfl⟩)
          | (go_at_call 89; refine (text_any E c _).mono ?_; rintro en w7 ⟨rfl, rfl⟩; rw [HJJ.out]))
        refine HBY.out.mono ?_
        rintro en w7 ⟨ao, cap, rfl, hl, hi, hB, hc, hcm, hin, hk7⟩
        have HE7 := Lib.hid (HE6.out.read hin hk7)
        have hcv := conv_u8 (P := Try.prog) cap 41 5 9 Try.underlying41 Try.underlying5 Try.underlying9 hi hl
        rw [← bytesOf_str] at hcv
        generalize inBytes 32 st' = y at *
        obtain ⟨zs, st2⟩ := y
        have c7 : ∃ v, w7.cell? ⟨E, j, none⟩ = some v := by
          rw [(HE7.out.cellE j).1]
          rcases HJ.out with h | h <;> subst h <;> exact ⟨_, rfl⟩
        obtain ⟨v7, c7⟩ := c7
        have f7 := (HE7.out.cellE j).2
        have HU := Lib.hid (HE7.out.setE j _ _ (HS2.out (bytesOf zs)))
        clear hi hB hin hk7
        go_wp2
        go_roundg (gk - 1)
        case measure => omega
        case rel => exact ⟨k + 1, by omega, by rw [HSN.out, HST.out]; exact HU.out⟩
    · obtain rfl : k = nm.length := by omega
      have hnx := fun ty => next_stop (P := Try.prog) wr (E + 1) (bytesOf nm) nm.length hE.iter (by rw [bytesOf_size]; omega) ty
      rw [List.take_of_length_le (Nat.le_refl _)] at hE
      have HEE := Lib.hid hE
      have hcE := fun i => (hE.cellE i).1
      have d0 := hcE 0
      have d1 := hcE 1
      have d2 := hcE 2
      have d3 := hcE 3
      have d4 := hcE 4
      have d5 := hcE 5
      have d6 := hcE 6
      have d7 := hcE 7
      have d8 := hcE 8
      have hcR := fun i => (hE.cellR i).1
      have hfR := fun i => (hE.cellR i).2
      have r0 := hcR 0
      have s0 := hfR 0
      have r1 := hcR 1
      have s1 := hfR 1
      have r2 := hcR 2
      have s2 := hfR 2
      have r3 := hcR 3
      have s3 := hfR 3
      have r4 := hcR 4
      have s4 := hfR 4
      have r5 := hcR 5
      have s5 := hfR 5
      have r6 := hcR 6
      have s6 := hfR 6
      have r7 := hcR 7
      have s7 := hfR 7
      have r8 := hcR 8
      have s8 := hfR 8
      generalize nm.foldl stepIn (ev0.setN kk 0, st1) = x at *
      obtain ⟨e', st'⟩ := x
      simp only [EV.cells, ev0, List.getElem?_toArray, List.getElem?_cons_zero, List.getElem?_cons_succ] at d0 r0 d1 r1 d2 r2 d3 r3 d4 r4 d5 r5 d6 r6 d7 r7 d8 r8
      clear hE hcE hcR hfR hlt
      go_wp2
      obtain ⟨wF, hwF⟩ : ∃ wF, wF = (((((((((wr.setCell ⟨w.heap.size, 0, none⟩ (.int .i64 e'.k)).setCell ⟨w.heap.size, 1, none⟩ (.int .i64 e'.f)).setCell ⟨w.heap.size, 2, none⟩ (.int .i64 e'.t)).setCell ⟨w.heap.size, 3, none⟩ (.int .i64 e'.a)).setCell ⟨w.heap.size, 4, none⟩ (.int .i64 e'.n)).setCell ⟨w.heap.size, 5, none⟩ (.int .i64 e'.i)).setCell ⟨w.heap.size, 6, none⟩ (.int .i64 e'.d)).setCell ⟨w.heap.size, 7, none⟩ (.string e'.h)).setCell ⟨w.heap.size, 8, none⟩ (.string e'.s)) := ⟨_, rfl⟩
      rw [← hwF]
      obtain ⟨g1, g2, g3⟩ := HEE.out.close hwF
      have q := blk_cell g3
      have q0 := q 0; have q1 := q 1; have q2 := q 2; have q3 := q 3; have q4 := q 4; have q5 := q 5; have q6 := q 6; have q7 := q 7; have q8 := q 8
      simp only [EV.cells, List.getElem?_toArray, List.getElem?_cons_zero, List.getElem?_cons_succ] at q0 q1 q2 q3 q4 q5 q6 q7 q8
      refine bodyPost_ret (v := .agg #[.int .i64 e'.k, .int .i64 e'.f, .int .i64 e'.t, .int .i64 e'.a, .int .i64 e'.n, .int .i64 e'.i, .int .i64 e'.d, .string e'.h, .string e'.s]) (by simp [results, Try.results66, go_sem, *]) rfl ⟨?_, ?_, g2⟩
      · rw [HDEF.out]; rfl
      · rw [HDEF.out]; exact g1

end Go.Proofs.Ytadejcpifabpoaa
