/- Contracts of slices.Clone at ints and of the program's Copy of a purse. -/
import Derived.Test.YtbhoakohpfdeoaaGreatPur1
namespace Go.Proofs.YtbhoakohpfdeoaaGreat
open Go.RowKit
set_option linter.unusedVariables false

theorem Try_infoI64 : (Tryz.prog.info? 3).map (fun i => (i.zero, i.size, i.bytes)) = some (some (.int .i64 0), 1, 8) := by kernel_rfl
theorem Try_infoInts : (Tryz.prog.info? 54).map (fun i => (i.zero, i.size, i.bytes)) = some (some (.slice none 0 0), 1, 24) := by kernel_rfl

theorem own_form {w : World} {base : Nat} {e : TypeId} {v : Value} {n : Nat} {xs : List Value} (h : w.ownsRow base e 1 v n xs) (h0 : 0 < n) :
    ∃ g cap cs, v = .slice (some ⟨g, 0, none⟩) n cap ∧ w.heap[g]? = some (.cells cs e (0, 0)) ∧ n ≤ cap ∧ cap ≤ maxLen ∧ ∀ j (hj : j < xs.length), cs[j]? = some xs[j] := by
  rcases h.2 with ⟨_, hn⟩ | ⟨g, cap, cur, rfl, hb, hh, h1, h2, h3, h4⟩
  · omega
  · refine ⟨g, cap, cur, rfl, hh, h1, h2, fun j hj => ?_⟩
    have : xs[j] = (cur.toList.take (n * 1))[j]'(by rw [h4]; exact hj) := by simp only [h4]
    rw [this, List.getElem_take, Array.getElem_toList, Array.getElem?_eq_getElem]

/-- A new row of ints. -/
def RowNew (w : World) (zs : List Int) (w' : World) (g cap : Nat) : Prop :=
  (∃ cs, w'.heap[g]? = some (.cells cs 3 (0, 0)) ∧ ∀ j (hj : j < zs.length), cs[j]? = some (.int .i64 zs[j])) ∧ zs.length ≤ cap ∧ cap ≤ maxLen ∧ w.heap.size ≤ g ∧ Below w.heap.size w w'
theorem rowNew_of {w w' : World} {zs : List Int} {ao : Option Addr} {n cap : Nat} (hn : zs.length = n) (h0 : 0 < n) (h : w'.ownsRow 0 3 1 (.slice ao n cap) n (zs.map (.int .i64))) (hb : Below w.heap.size w w') (hf : ∀ g, (Value.slice ao n cap).ownBlock = some g → w.heap.size ≤ g) :
    ∃ g, ao = some ⟨g, 0, none⟩ ∧ RowNew w zs w' g cap := by
  obtain ⟨g, cap', cs, hv, hh, h1, h2, h3⟩ := own_form h h0
  simp only [Value.slice.injEq, true_and] at hv
  obtain ⟨rfl, rfl⟩ := hv
  refine ⟨g, rfl, ⟨cs, hh, fun j hj => ?_⟩, by omega, h2, hf g rfl, hb⟩
  have := h3 j (by simpa using hj)
  simpa using this

set_option maxHeartbeats 1000000 in
theorem clone_i64 (ao : Option Addr) (zs : List Int) (n cap : Nat) (w : World) (hn : zs.length = n) (h : IntsAt .i64 w ao zs) (h0 : 0 < n) (hm : n ≤ 1000) :
    Calls Tryz.prog 64 #[.slice ao n cap] w fun e w' => ∃ g cap', e = .returned (.slice (some ⟨g, 0, none⟩) n cap') ∧ RowNew w zs w' g cap' := by
  have heq := fun w : World => Lib.run_eql_slice_nil (P := Tryz.prog) w 54 3 ao n cap 0 0 Tryz.underlying54
  have HN := Lib.hid hn
  have H := Lib.hid h
  clear hn
  cases ao with
  | none => have := ints_none h; have := HN.out; omega
  | some a =>
    obtain ⟨i0, hi, hz0, hz1, hz2⟩ := info_parts Try_infoI64
    clear h
    go_enter Tryz.func64, Tryz.ntmps64
    go_wp2_with (at_builtin; refine wpList_append_any rfl _ _ 54 rfl 3 i0 (.int .i64 0) 1 8 Tryz.underlying54 hi hz0 hz1 hz2 rfl (by decide) (.slice (some ⟨w.heap.size, 0, none⟩) 0 0) 0 [] rfl (World.ownsRow_made w #[] 0 (Nat.zero_le _) (Nat.zero_le _) rfl) (some a) n cap (zs.map (Value.int .i64)) rfl ?c1 ?c2 ?c3 (ints_one _ _) ?c5 ?c6 ?_)
    case c1 => simp; exact HN.out
    case c2 => intro e; cases e
    case c3 => exact src_ints (ints_below H.out ((Below.refl _ _).alloc (Nat.le_refl _) _))
    case c5 => unfold maxLen; omega
    case c6 => omega
    intro ao' cap' w1 hown hgrow hat hnn
    have HR := Lib.hid (rowNew_of (w := w) (cap := cap') HN.out h0 (ao := ao') (by simpa using hown) (((Below.refl _ _).alloc (Nat.le_refl _) _).grown hgrow (by simp) (fun k hk => by simp only [Value.ownBlock, Option.some.injEq] at hk; omega)) (fun g hg => by
      rcases hat g (by simpa using hg) with e | e
      · simp only [Value.ownBlock, Option.some.injEq] at e; omega
      · rw [e]; simp))
    clear hown hgrow hat hnn
    go_wp2
    go_ret
    obtain ⟨g, rfl, hr⟩ := HR.out
    exact ⟨g, cap', ret_val (a := .slice (some ⟨g, 0, none⟩) n cap') rfl, hr⟩

/-! Rows laid one after the other. -/
def rowV (m : Nat) (g : Nat × Nat) : Value := .slice (some ⟨g.1, 0, none⟩) m g.2
structure CInv (w wr : World) (bs : List ISl) (m : Nat) (v : Value) (gs : List (Nat × Nat)) : Prop where
  own : wr.ownsRow 0 54 1 v gs.length (gs.map (rowV m))
  size : w.heap.size ≤ wr.heap.size
  fresh : ∀ g, v.ownBlock = some g → w.heap.size ≤ g
  row : ∀ k (hk : k < gs.length), (∃ cs, wr.heap[gs[k].1]? = some (.cells cs 3 (0, 0)) ∧ ∀ j, j < m → cs[j]? = some (.int .i64 ((bs.getD k default).zs.getD j 0))) ∧ m ≤ gs[k].2 ∧ gs[k].2 ≤ maxLen ∧ w.heap.size ≤ gs[k].1
  apart : ∀ k (hk : k < gs.length) i (hi : i < gs.length), gs[k].1 = gs[i].1 → k = i
theorem cinv_nil (w wr : World) (bs : List ISl) (m : Nat) (h : w.heap.size ≤ wr.heap.size) : CInv w wr bs m (.slice none 0 0) [] :=
  ⟨World.ownsRow_nil _ _ _ _, h, (fun g hg => by cases hg), (fun k hk => by simp at hk), (fun k hk => by simp at hk)⟩
theorem CInv.far {w wr : World} {bs : List ISl} {m : Nat} {v : Value} {gs : List (Nat × Nat)} (h : CInv w wr bs m v gs) (k : Nat) (hk : k < gs.length) : v.ownBlock ≠ some gs[k].1 := by
  intro he
  rcases h.own.2 with ⟨rfl, _⟩ | ⟨g, cap, cur, rfl, _, hh, _⟩
  · cases he
  · simp only [Value.ownBlock, Option.some.injEq] at he
    subst he
    obtain ⟨⟨cs, h1, _⟩, _⟩ := h.row k hk
    rw [hh] at h1
    simp at h1
theorem CInv.keep {w wr w' : World} {bs : List ISl} {m : Nat} {v : Value} {gs : List (Nat × Nat)} {S : Nat → Prop} (h : CInv w wr bs m v gs) (hk : Keeps S wr w') (hs : ∀ k, S k → k < w.heap.size ∨ wr.heap.size ≤ k) : CInv w w' bs m v gs := by
  have hb : ∀ k, w.heap.size ≤ k → k < wr.heap.size → w'.heap[k]? = wr.heap[k]? := fun k h1 h2 => hk.block k h2 (fun hS => by have := hs k hS; omega)
  refine ⟨ownsRow_same h.own (fun g hg => hb g (h.fresh g hg) (h.own.lt g hg).2), Nat.le_trans h.size hk.size, h.fresh, fun k hk' => ?_, h.apart⟩
  obtain ⟨⟨cs, h1, h2⟩, h3, h4, h5⟩ := h.row k hk'
  exact ⟨⟨cs, (hb _ h5 (blk_lt h1)).trans h1, h2⟩, h3, h4, h5⟩
theorem cinv_step {w wr w1 wa w2 : World} {bs : List ISl} {m : Nat} {v v' : Value} {gs : List (Nat × Nat)} {g c : Nat} {zs : List Int} (h : CInv w wr bs m v gs) (hl : gs.length < bs.length) (hz : zs = (bs.getD gs.length default).zs) (hzm : zs.length = m)
    (hr : RowNew wr zs w1 g c) (ha : Keeps (fun _ => False) w1 wa)
    (hown : w2.ownsRow 0 54 1 v' (gs.length + 1) (gs.map (rowV m) ++ [rowV m (g, c)])) (hgrow : wa.grownBy w2 v.ownBlock) (hat : ∀ g, v'.ownBlock = some g → v.ownBlock = some g ∨ g = wa.heap.size) :
    CInv w w2 bs m v' (gs ++ [(g, c)]) := by
  obtain ⟨⟨cs, r1, r2⟩, r3, r4, r5, r6⟩ := hr
  have hsz := h.size
  have hs1 := r6.size
  have hs2 := ha.size
  have hkeep : ∀ k, k < w1.heap.size → v.ownBlock ≠ some k → w2.heap[k]? = w1.heap[k]? := fun k hk hn =>
    (hgrow.block k (by omega) (fun e => hn e.symm)).trans (ha.block k hk (fun f => f))
  have hgl := blk_lt r1
  have hvl : ∀ k, v.ownBlock = some k → k < wr.heap.size := fun k hk => (h.own.lt k hk).2
  refine ⟨by simpa using hown, by have := hgrow.size; omega, fun k hk => ?_, fun k hk => ?_, fun k hk i hi he => ?_⟩
  · rcases hat k hk with e | e
    · exact h.fresh k e
    · omega
  · by_cases e : k = gs.length
    · subst e
      simp only [List.getElem_append_right (Nat.le_refl _), Nat.sub_self, List.getElem_cons_zero]
      refine ⟨⟨cs, (hkeep g hgl (fun e => by have := hvl g e; omega)).trans r1, fun j hj => ?_⟩, by omega, r4, by omega⟩
      have := r2 j (by omega)
      rw [this, ← hz]
      simp [List.getD, show j < zs.length by omega]
    · have hk' : k < gs.length := by simp at hk; omega
      simp only [List.getElem_append_left hk']
      obtain ⟨⟨cs', h1, h2⟩, h3, h4, h5⟩ := h.row k hk'
      have hkl := blk_lt h1
      exact ⟨⟨cs', ((hkeep _ (by omega) (h.far k hk')).trans (r6.block _ hkl)).trans h1, h2⟩, h3, h4, h5⟩
  · have hlt : ∀ k (hk' : k < gs.length), gs[k].1 < wr.heap.size := fun k hk' => by obtain ⟨⟨cs', h1, _⟩, _⟩ := h.row k hk'; exact blk_lt h1
    simp at hk hi
    by_cases e1 : k = gs.length <;> by_cases e2 : i = gs.length
    · omega
    · subst e1
      have := hlt i (by omega)
      simp only [List.getElem_append_right (Nat.le_refl _), Nat.sub_self, List.getElem_cons_zero, List.getElem_append_left (show i < gs.length by omega)] at he
      omega
    · subst e2
      have := hlt k (by omega)
      simp only [List.getElem_append_right (Nat.le_refl _), Nat.sub_self, List.getElem_cons_zero, List.getElem_append_left (show k < gs.length by omega)] at he
      omega
    · simp only [List.getElem_append_left (show k < gs.length by omega), List.getElem_append_left (show i < gs.length by omega)] at he
      exact h.apart k (by omega) i (by omega) he
def balOf (bs : List ISl) : Nat → Nat → Int := fun i j => (bs.getD i default).zs.getD j 0
theorem cinv_done {w wr : World} {bs : List ISl} {m n : Nat} {v : Value} {gs : List (Nat × Nat)} (h : CInv w wr bs m v gs) (hn : gs.length = n) (h0 : 0 < n) :
    ∃ L lcap, v = .slice (some ⟨L, 0, none⟩) n lcap ∧ ∀ (T : TypeId) (w' : World) (p : Nat), T ≠ 3 → T ≠ 54 → w.heap.size ≤ p → p < w'.heap.size → w'.heap[p]? = some (.cells #[v] T (0, 0)) → (∀ k, w.heap.size ≤ k → k < wr.heap.size → k ≠ p → w'.heap[k]? = wr.heap[k]?) → wr.heap.size ≤ w'.heap.size →
      (∀ k, k < wr.heap.size → k = p → ∃ cs, wr.heap[k]? = some (.cells cs T (0, 0))) →
      PAt T w' p (fun k => w.heap.size ≤ k ∧ k < w'.heap.size) n m (balOf bs) := by
  subst hn
  obtain ⟨L, lcap, cs, hv, hh, h1, h2, h3⟩ := own_form h.own h0
  refine ⟨L, lcap, hv, fun T w' p hT1 hT2 hp1 hp2 hpb hkp hsz hpt => ?_⟩
  have hLf := h.fresh L (by rw [hv]; rfl)
  have hLl := blk_lt hh
  have hLp : L ≠ p := fun e => by
    subst e
    obtain ⟨cs', h'⟩ := hpt L hLl rfl
    rw [hh] at h'
    simp only [Option.some.injEq, Obj.cells.injEq, and_true] at h'
    exact hT2 h'.2.symm
  have hrow : ∀ k (hk : k < gs.length), w.heap.size ≤ gs[k].1 ∧ gs[k].1 < wr.heap.size ∧ gs[k].1 ≠ p ∧ gs[k].1 ≠ L := fun k hk => by
    obtain ⟨⟨cs', r1, r2⟩, r3, r4, r5⟩ := h.row k hk
    refine ⟨r5, blk_lt r1, fun e => ?_, fun e => ?_⟩
    · obtain ⟨cs'', h'⟩ := hpt gs[k].1 (blk_lt r1) e
      rw [r1] at h'
      simp only [Option.some.injEq, Obj.cells.injEq, and_true] at h'
      exact hT1 h'.2.symm
    · rw [e, hh] at r1; simp at r1
  refine ⟨L, lcap, fun i => (gs.getD i (0, 0)).1, fun i => (gs.getD i (0, 0)).2, ⟨by rw [← hv]; exact hpb, ⟨cs, (hkp L hLf hLl hLp).trans hh, fun i hi => ?_⟩, fun i hi => ?_, ⟨h1, h2, fun i hi => ?_⟩, ⟨hLp, fun i hi => ?_, fun i hi k hk he => ?_⟩, h0⟩, ?_, fun k hk => hk.2⟩
  · have := h3 i (by simpa using hi)
    rw [this]; simp [rowV, List.getD, hi]
  · obtain ⟨⟨cs', r1, r2⟩, r3, r4, r5⟩ := h.row i hi
    obtain ⟨q1, q2, q3, q4⟩ := hrow i hi
    have e : (gs.getD i (0, 0)) = gs[i] := by simp [List.getD, hi]
    rw [e]
    exact ⟨cs', (hkp _ q1 q2 q3).trans r1, r2⟩
  · obtain ⟨⟨cs', r1, r2⟩, r3, r4, r5⟩ := h.row i hi
    have e : (gs.getD i (0, 0)) = gs[i] := by simp [List.getD, hi]
    rw [e]; exact ⟨r3, r4⟩
  · obtain ⟨q1, q2, q3, q4⟩ := hrow i hi
    have e : (gs.getD i (0, 0)) = gs[i] := by simp [List.getD, hi]
    rw [e]; exact ⟨q3, q4⟩
  · have e1 : (gs.getD i (0, 0)) = gs[i] := by simp [List.getD, hi]
    have e2 : (gs.getD k (0, 0)) = gs[k] := by simp [List.getD, hk]
    rw [e1, e2] at he
    exact h.apart i hi k hk he
  · rintro k (rfl | rfl | ⟨i, hi, rfl⟩)
    · exact ⟨hp1, hp2⟩
    · exact ⟨hLf, by omega⟩
    · obtain ⟨q1, q2, q3, q4⟩ := hrow i hi
      have e : (gs.getD i (0, 0)) = gs[i] := by simp [List.getD, hi]
      show w.heap.size ≤ (gs.getD i (0, 0)).1 ∧ (gs.getD i (0, 0)).1 < w'.heap.size
      rw [e]; exact ⟨q1, by omega⟩

/-- A new purse, and nothing else turned. -/
def PNew (T : TypeId) (w : World) (n m : Nat) (b : Nat → Nat → Int) (q : Nat) (w' : World) : Prop :=
  PAt T w' q (fun k => w.heap.size ≤ k ∧ k < w'.heap.size) n m b ∧ Below w.heap.size w w'

set_option maxRecDepth 100000 in
set_option maxHeartbeats 1000000 in
theorem copy_any (p : Nat) (ao : Option Addr) (bs : List ISl) (n cap m : Nat) (w : World) (hc : w.cell? ⟨p, 0, none⟩ = some (.slice ao n cap)) (hb : IntsList w ao bs) (hn : bs.length = n) (hm : ∀ i (hi : i < bs.length), bs[i].zs.length = m) (h0 : 0 < n) (hm0 : 0 < m) (h16 : n ≤ 1000) (h4 : m ≤ 1000) :
    Calls Tryz.prog 51 #[.pointer (some ⟨p, 0, none⟩)] w fun e w' => ∃ q, e = .returned (.pointer (some ⟨q, 0, none⟩)) ∧ PNew 75 w n m (balOf bs) q w' := by
  have HB := Lib.hid hb
  have HN := Lib.hid hn
  have HM := Lib.hid hm
  obtain ⟨i0, hi, hz0, hz1, hz2⟩ := info_parts Try_infoInts
  clear hb hn hm
  go_enter Tryz.func51, Tryz.ntmps51
  go_wp2_with fail
  go_loopw [3, 11] (fun v i wr => ∃ gs : List (Nat × Nat), gs.length ≤ n ∧ i = .int .i64 (gs.length : Nat) ∧ CInv w wr bs m v gs ∧ Below w.heap.size w wr) (fun _ i _ => n + 1 - (intOf i + 1).toNat)
  case atStart => exact ⟨[], Nat.zero_le _, rfl, cinv_nil _ _ _ _ (Nat.le_refl _), Below.refl _ _⟩
  case round =>
    obtain ⟨gs, hk, rfl, hI, hbel⟩ := hrel
    have HI := Lib.hid hI
    have HW := Lib.hid hbel
    have HKL : Hid (gs.length = gs.length) := Lib.hid rfl
    by_cases hlt : gs.length < n
    · have hkb : gs.length < bs.length := by rw [HN.out]; exact hlt
      obtain ⟨ab, aoff, rfl, hcell⟩ := il_cell (HB.out.below hbel) gs.length hkb
      have HSRC := Lib.hid (il_ok (HB.out.below hbel) gs.length hkb).1
      have HZ := Lib.hid (show bs[gs.length].zs = (bs.getD gs.length default).zs by simp [List.getD, hkb])
      have HZM := Lib.hid (HM.out gs.length hkb)
      have hv := hI.own
      rw [HZM.out] at hcell
      generalize hKK : gs.length = K at *
      have HKK := Lib.hid hKK
      generalize hQ : bs[K] = x at *
      have HQ := Lib.hid hQ
      have HO := Lib.hid hv
      clear hI hbel hv hKK hQ
      go_wp2_with fail
      refine (clone_i64 x.ao x.zs m x.cap wr HZM.out HSRC.out hm0 h4).mono ?_
      rintro e w1 ⟨g, c, rfl, hr⟩
      have HR := Lib.hid hr
      have hs1 := hr.2.2.2.2.size
      have HO1 := Lib.hid (ownsRow_same HO.out (fun g hg => hr.2.2.2.2.block g (HO.out.lt g hg).2))
      clear hr
      go_wp2_with (at_builtin; refine wpList_append_any rfl _ _ 22 rfl 54 i0 (.slice none 0 0) 1 24 Tryz.underlying22 hi hz0 hz1 hz2 rfl (by decide) u3 K (gs.map (rowV m)) rfl (HO1.out.alloc _) (some ⟨w1.heap.size, 0, none⟩) 1 1 [rowV m (g, c)] rfl rfl ?c2 ?c3 ?c4 ?c5 ?c6 ?_)
      case c2 => intro e; cases e
      case c3 => intro ad had; cases had; exact World.news_of_block (heap_alloc_new _ _)
      case c4 => simp [Value.oneCell', rowV]
      case c5 => unfold maxLen; omega
      case c6 => omega
      intro ao' cap' w2 hown hgrow hat hnn
      have HC := Lib.hid (cinv_step (c := c) HI.out (by rw [HKK.out]; exact hkb) (by rw [HKK.out]; exact HZ.out) HZM.out HR.out ((Keeps.refl _ _).alloc _) (by rw [HKK.out]; exact hown) hgrow (fun g hg => by simpa using hat g hg))
      have HB2 := Lib.hid (((HW.out.trans (HR.out.2.2.2.2.mono HW.out.size)).alloc (by have := HW.out.size; omega) _).grown hgrow (by have := HW.out.size; simp; omega) (fun k hk => HI.out.fresh k hk))
      clear hown hgrow hat hnn
      go_wp2
      go_roundw
      case rel => exact ⟨gs ++ [(g, c)], by simp [HKK.out]; omega, by simp [HKK.out], HC.out, HB2.out⟩
      case measure => simp [intOf]; omega
    · have hkn : n = gs.length := by omega
      obtain ⟨L, lcap, rfl, hdone⟩ := cinv_done hI hkn.symm h0
      have HD := Lib.hid hdone
      have HKN := Lib.hid hkn
      clear hI hbel hdone hkn hk
      generalize gs.length = K at *
      have hkk : ¬ (K : Int) < (n : Int) := by omega
      clear hlt
      go_wp2
      go_ret
      have hs := HW.out.size
      refine ⟨wr.heap.size, rfl, HD.out 75 _ wr.heap.size (by decide) (by decide) hs (by simp) (heap_alloc_new wr _) (fun k h1 h2 h3 => Below.heap_alloc _ _ _ h2) (by simp) (fun k h1 h2 => by omega), HW.out.alloc hs _⟩

end Go.Proofs.YtbhoakohpfdeoaaGreat
