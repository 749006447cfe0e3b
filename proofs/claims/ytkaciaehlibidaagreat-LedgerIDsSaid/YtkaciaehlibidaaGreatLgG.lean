/- Contracts of slices.Clone at ints and of the program's Copy of a purse. Contracts of purse.may and purse.New. Contracts of purse.New and of chapter 9's example. -/
import Derived.Test.YtkaciaehlibidaaGreatLgA
namespace Go.Proofs.YtkaciaehlibidaaGreat
open Go.RowKit
set_option linter.unusedVariables false

theorem Try_infoI64 : (Tryz.prog.info? 3).map (fun i => (i.zero, i.size, i.bytes)) = some (some (.int .i64 0), 1, 8) := by kernel_rfl
theorem Try_infoInts : (Tryz.prog.info? 60).map (fun i => (i.zero, i.size, i.bytes)) = some (some (.slice none 0 0), 1, 24) := by kernel_rfl

theorem own_form {w : World} {base : Nat} {e : TypeId} {v : Value} {n : Nat} {xs : List Value} (h : w.ownsRow base e 1 v n xs) (h0 : 0 < n) :
    ∃ g cap cs, v = .slice (some ⟨g, 0, none⟩) n cap ∧ w.heap[g]? = some (.cells cs e (0, 0)) ∧ n ≤ cap ∧ cap ≤ maxLen ∧ ∀ j (hj : j < xs.length), cs[j]? = some xs[j] := by
  rcases h.2 with ⟨_, hn⟩ | ⟨g, cap, cur, rfl, hb, hh, h1, h2, h3, h4⟩
  · omega
  · refine ⟨g, cap, cur, rfl, hh, h1, h2, fun j hj => ?_⟩
    have : xs[j] = (cur.toList.take (n * 1))[j]'(by rw [h4]; exact hj) := by simp only [h4]
    rw [this, List.getElem_take, Array.getElem_toList, Array.getElem?_eq_getElem]

/-- A new row of ints. -/
def RowNew (w : World) (zs : List Int) (w' : World) (g cap : Nat) : Prop :=
  (∃ cs, w'.heap[g]? = some (.cells cs 3 (0, 0)) ∧ ∀ j (hj : j < zs.length), cs[j]? = some (.int .i64 zs[j])) ∧ zs.length ≤ cap ∧ cap ≤ maxLen ∧ w.heap.size ≤ g ∧ Below w.heap.size w w'
theorem rowNew_of {w w' : World} {zs : List Int} {ao : Option Addr} {n cap : Nat} (hn : zs.length = n) (h0 : 0 < n) (h : w'.ownsRow 0 3 1 (.slice ao n cap) n (zs.map (.int .i64))) (hb : Below w.heap.size w w') (hf : ∀ g, (Value.slice ao n cap).ownBlock = some g → w.heap.size ≤ g) :
    ∃ g, ao = some ⟨g, 0, none⟩ ∧ RowNew w zs w' g cap := by
  obtain ⟨g, cap', cs, hv, hh, h1, h2, h3⟩ := own_form h h0
  simp only [Value.slice.injEq, true_and] at hv
  obtain ⟨rfl, rfl⟩ := hv
  refine ⟨g, rfl, ⟨cs, hh, fun j hj => ?_⟩, by omega, h2, hf g rfl, hb⟩
  have := h3 j (by simpa using hj)
  simpa using this

set_option maxHeartbeats 1000000 in
theorem clone_i64 (ao : Option Addr) (zs : List Int) (n cap : Nat) (w : World) (hn : zs.length = n) (h : IntsAt .i64 w ao zs) (h0 : 0 < n) (hm : n ≤ 1000) :
    Calls Tryz.prog 94 #[.slice ao n cap] w fun e w' => ∃ g cap', e = .returned (.slice (some ⟨g, 0, none⟩) n cap') ∧ RowNew w zs w' g cap' := by
  have heq := fun w : World => Lib.run_eql_slice_nil (P := Tryz.prog) w 60 3 ao n cap 0 0 Tryz.underlying60
  have HN := Lib.hid hn
  have H := Lib.hid h
  clear hn
  cases ao with
  | none => have := ints_none h; have := HN.out; omega
  | some a =>
    obtain ⟨i0, hi, hz0, hz1, hz2⟩ := info_parts Try_infoI64
    clear h
    go_enter Tryz.func94, Tryz.ntmps94
    go_wp2_with (at_builtin; refine wpList_append_any rfl _ _ 60 rfl 3 i0 (.int .i64 0) 1 8 Tryz.underlying60 hi hz0 hz1 hz2 rfl (by decide) (.slice (some ⟨w.heap.size, 0, none⟩) 0 0) 0 [] rfl (World.ownsRow_made w #[] 0 (Nat.zero_le _) (Nat.zero_le _) rfl) (some a) n cap (zs.map (Value.int .i64)) rfl ?c1 ?c2 ?c3 (ints_one _ _) ?c5 ?c6 ?_)
    case c1 => simp; exact HN.out
    case c2 => intro e; cases e
    case c3 => exact src_ints (ints_below H.out ((Below.refl _ _).alloc (Nat.le_refl _) _))
    case c5 => unfold maxLen; omega
    case c6 => omega
    intro ao' cap' w1 hown hgrow hat hnn
    have HR := Lib.hid (rowNew_of (w := w) (cap := cap') HN.out h0 (ao := ao') (by simpa using hown) (((Below.refl _ _).alloc (Nat.le_refl _) _).grown hgrow (by simp) (fun k hk => by simp only [Value.ownBlock, Option.some.injEq] at hk; omega)) (fun g hg => by
      rcases hat g (by simpa using hg) with e | e
      · simp only [Value.ownBlock, Option.some.injEq] at e; omega
      · rw [e]; simp))
    clear hown hgrow hat hnn
    go_wp2
    go_ret
    obtain ⟨g, rfl, hr⟩ := HR.out
    exact ⟨g, cap', ret_val (a := .slice (some ⟨g, 0, none⟩) n cap') rfl, hr⟩

/-! Rows laid one after the other. -/
def rowV (m : Nat) (g : Nat × Nat) : Value := .slice (some ⟨g.1, 0, none⟩) m g.2
structure CInv (w wr : World) (bs : List ISl) (m : Nat) (v : Value) (gs : List (Nat × Nat)) : Prop where
  own : wr.ownsRow 0 60 1 v gs.length (gs.map (rowV m))
  size : w.heap.size ≤ wr.heap.size
  fresh : ∀ g, v.ownBlock = some g → w.heap.size ≤ g
  row : ∀ k (hk : k < gs.length), (∃ cs, wr.heap[gs[k].1]? = some (.cells cs 3 (0, 0)) ∧ ∀ j, j < m → cs[j]? = some (.int .i64 ((bs.getD k default).zs.getD j 0))) ∧ m ≤ gs[k].2 ∧ gs[k].2 ≤ maxLen ∧ w.heap.size ≤ gs[k].1
  apart : ∀ k (hk : k < gs.length) i (hi : i < gs.length), gs[k].1 = gs[i].1 → k = i
theorem cinv_nil (w wr : World) (bs : List ISl) (m : Nat) (h : w.heap.size ≤ wr.heap.size) : CInv w wr bs m (.slice none 0 0) [] :=
  ⟨World.ownsRow_nil _ _ _ _, h, (fun g hg => by cases hg), (fun k hk => by simp at hk), (fun k hk => by simp at hk)⟩
theorem CInv.far {w wr : World} {bs : List ISl} {m : Nat} {v : Value} {gs : List (Nat × Nat)} (h : CInv w wr bs m v gs) (k : Nat) (hk : k < gs.length) : v.ownBlock ≠ some gs[k].1 := by
  intro he
  rcases h.own.2 with ⟨rfl, _⟩ | ⟨g, cap, cur, rfl, _, hh, _⟩
  · cases he
  · simp only [Value.ownBlock, Option.some.injEq] at he
    subst he
    obtain ⟨⟨cs, h1, _⟩, _⟩ := h.row k hk
    rw [hh] at h1
    simp at h1
theorem CInv.keep {w wr w' : World} {bs : List ISl} {m : Nat} {v : Value} {gs : List (Nat × Nat)} {S : Nat → Prop} (h : CInv w wr bs m v gs) (hk : Keeps S wr w') (hs : ∀ k, S k → k < w.heap.size ∨ wr.heap.size ≤ k) : CInv w w' bs m v gs := by
  have hb : ∀ k, w.heap.size ≤ k → k < wr.heap.size → w'.heap[k]? = wr.heap[k]? := fun k h1 h2 => hk.block k h2 (fun hS => by have := hs k hS; omega)
  refine ⟨ownsRow_same h.own (fun g hg => hb g (h.fresh g hg) (h.own.lt g hg).2), Nat.le_trans h.size hk.size, h.fresh, fun k hk' => ?_, h.apart⟩
  obtain ⟨⟨cs, h1, h2⟩, h3, h4, h5⟩ := h.row k hk'
  exact ⟨⟨cs, (hb _ h5 (blk_lt h1)).trans h1, h2⟩, h3, h4, h5⟩
theorem cinv_step {w wr w1 wa w2 : World} {bs : List ISl} {m : Nat} {v v' : Value} {gs : List (Nat × Nat)} {g c : Nat} {zs : List Int} (h : CInv w wr bs m v gs) (hl : gs.length < bs.length) (hz : zs = (bs.getD gs.length default).zs) (hzm : zs.length = m)
    (hr : RowNew wr zs w1 g c) (ha : Keeps (fun _ => False) w1 wa)
    (hown : w2.ownsRow 0 60 1 v' (gs.length + 1) (gs.map (rowV m) ++ [rowV m (g, c)])) (hgrow : wa.grownBy w2 v.ownBlock) (hat : ∀ g, v'.ownBlock = some g → v.ownBlock = some g ∨ g = wa.heap.size) :
    CInv w w2 bs m v' (gs ++ [(g, c)]) := by
  obtain ⟨⟨cs, r1, r2⟩, r3, r4, r5, r6⟩ := hr
  have hsz := h.size
  have hs1 := r6.size
  have hs2 := ha.size
  have hkeep : ∀ k, k < w1.heap.size → v.ownBlock ≠ some k → w2.heap[k]? = w1.heap[k]? := fun k hk hn =>
    (hgrow.block k (by omega) (fun e => hn e.symm)).trans (ha.block k hk (fun f => f))
  have hgl := blk_lt r1
  have hvl : ∀ k, v.ownBlock = some k → k < wr.heap.size := fun k hk => (h.own.lt k hk).2
  refine ⟨by simpa using hown, by have := hgrow.size; omega, fun k hk => ?_, fun k hk => ?_, fun k hk i hi he => ?_⟩
  · rcases hat k hk with e | e
    · exact h.fresh k e
    · omega
  · by_cases e : k = gs.length
    · subst e
      simp only [List.getElem_append_right (Nat.le_refl _), Nat.sub_self, List.getElem_cons_zero]
      refine ⟨⟨cs, (hkeep g hgl (fun e => by have := hvl g e; omega)).trans r1, fun j hj => ?_⟩, by omega, r4, by omega⟩
      have := r2 j (by omega)
      rw [this, ← hz]
      simp [List.getD, show j < zs.length by omega]
    · have hk' : k < gs.length := by simp at hk; omega
      simp only [List.getElem_append_left hk']
      obtain ⟨⟨cs', h1, h2⟩, h3, h4, h5⟩ := h.row k hk'
      have hkl := blk_lt h1
      exact ⟨⟨cs', ((hkeep _ (by omega) (h.far k hk')).trans (r6.block _ hkl)).trans h1, h2⟩, h3, h4, h5⟩
  · have hlt : ∀ k (hk' : k < gs.length), gs[k].1 < wr.heap.size := fun k hk' => by obtain ⟨⟨cs', h1, _⟩, _⟩ := h.row k hk'; exact blk_lt h1
    simp at hk hi
    by_cases e1 : k = gs.length <;> by_cases e2 : i = gs.length
    · omega
    · subst e1
      have := hlt i (by omega)
      simp only [List.getElem_append_right (Nat.le_refl _), Nat.sub_self, List.getElem_cons_zero, List.getElem_append_left (show i < gs.length by omega)] at he
      omega
    · subst e2
      have := hlt k (by omega)
      simp only [List.getElem_append_right (Nat.le_refl _), Nat.sub_self, List.getElem_cons_zero, List.getElem_append_left (show k < gs.length by omega)] at he
      omega
    · simp only [List.getElem_append_left (show k < gs.length by omega), List.getElem_append_left (show i < gs.length by omega)] at he
      exact h.apart k (by omega) i (by omega) he
def balOf (bs : List ISl) : Nat → Nat → Int := fun i j => (bs.getD i default).zs.getD j 0
theorem cinv_done {w wr : World} {bs : List ISl} {m n : Nat} {v : Value} {gs : List (Nat × Nat)} (h : CInv w wr bs m v gs) (hn : gs.length = n) (h0 : 0 < n) :
    ∃ L lcap, v = .slice (some ⟨L, 0, none⟩) n lcap ∧ ∀ (T : TypeId) (w' : World) (p : Nat), T ≠ 3 → T ≠ 60 → w.heap.size ≤ p → p < w'.heap.size → w'.heap[p]? = some (.cells #[v] T (0, 0)) → (∀ k, w.heap.size ≤ k → k < wr.heap.size → k ≠ p → w'.heap[k]? = wr.heap[k]?) → wr.heap.size ≤ w'.heap.size →
      (∀ k, k < wr.heap.size → k = p → ∃ cs, wr.heap[k]? = some (.cells cs T (0, 0))) →
      PAt T w' p (fun k => w.heap.size ≤ k ∧ k < w'.heap.size) n m (balOf bs) := by
  subst hn
  obtain ⟨L, lcap, cs, hv, hh, h1, h2, h3⟩ := own_form h.own h0
  refine ⟨L, lcap, hv, fun T w' p hT1 hT2 hp1 hp2 hpb hkp hsz hpt => ?_⟩
  have hLf := h.fresh L (by rw [hv]; rfl)
  have hLl := blk_lt hh
  have hLp : L ≠ p := fun e => by
    subst e
    obtain ⟨cs', h'⟩ := hpt L hLl rfl
    rw [hh] at h'
    simp only [Option.some.injEq, Obj.cells.injEq, and_true] at h'
    exact hT2 h'.2.symm
  have hrow : ∀ k (hk : k < gs.length), w.heap.size ≤ gs[k].1 ∧ gs[k].1 < wr.heap.size ∧ gs[k].1 ≠ p ∧ gs[k].1 ≠ L := fun k hk => by
    obtain ⟨⟨cs', r1, r2⟩, r3, r4, r5⟩ := h.row k hk
    refine ⟨r5, blk_lt r1, fun e => ?_, fun e => ?_⟩
    · obtain ⟨cs'', h'⟩ := hpt gs[k].1 (blk_lt r1) e
      rw [r1] at h'
      simp only [Option.some.injEq, Obj.cells.injEq, and_true] at h'
      exact hT1 h'.2.symm
    · rw [e, hh] at r1; simp at r1
  refine ⟨L, lcap, fun i => (gs.getD i (0, 0)).1, fun i => (gs.getD i (0, 0)).2, ⟨by rw [← hv]; exact hpb, ⟨cs, (hkp L hLf hLl hLp).trans hh, fun i hi => ?_⟩, fun i hi => ?_, ⟨h1, h2, fun i hi => ?_⟩, ⟨hLp, fun i hi => ?_, fun i hi k hk he => ?_⟩, h0⟩, ?_, fun k hk => hk.2⟩
  · have := h3 i (by simpa using hi)
    rw [this]; simp [rowV, List.getD, hi]
  · obtain ⟨⟨cs', r1, r2⟩, r3, r4, r5⟩ := h.row i hi
    obtain ⟨q1, q2, q3, q4⟩ := hrow i hi
    have e : (gs.getD i (0, 0)) = gs[i] := by simp [List.getD, hi]
    rw [e]
    exact ⟨cs', (hkp _ q1 q2 q3).trans r1, r2⟩
  · obtain ⟨⟨cs', r1, r2⟩, r3, r4, r5⟩ := h.row i hi
    have e : (gs.getD i (0, 0)) = gs[i] := by simp [List.getD, hi]
    rw [e]; exact ⟨r3, r4⟩
  · obtain ⟨q1, q2, q3, q4⟩ := hrow i hi
    have e : (gs.getD i (0, 0)) = gs[i] := by simp [List.getD, hi]
    rw [e]; exact ⟨q3, q4⟩
  · have e1 : (gs.getD i (0, 0)) = gs[i] := by simp [List.getD, hi]
    have e2 : (gs.getD k (0, 0)) = gs[k] := by simp [List.getD, hk]
    rw [e1, e2] at he
    exact h.apart i hi k hk he
  · rintro k (rfl | rfl | ⟨i, hi, rfl⟩)
    · exact ⟨hp1, hp2⟩
    · exact ⟨hLf, by omega⟩
    · obtain ⟨q1, q2, q3, q4⟩ := hrow i hi
      have e : (gs.getD i (0, 0)) = gs[i] := by simp [List.getD, hi]
      show w.heap.size ≤ (gs.getD i (0, 0)).1 ∧ (gs.getD i (0, 0)).1 < w'.heap.size
      rw [e]; exact ⟨q1, by omega⟩

/-- A new purse, and nothing else turned. -/
def PNew (T : TypeId) (w : World) (n m : Nat) (b : Nat → Nat → Int) (q : Nat) (w' : World) : Prop :=
  PAt T w' q (fun k => w.heap.size ≤ k ∧ k < w'.heap.size) n m b ∧ Below w.heap.size w w'

set_option maxRecDepth 100000 in
set_option maxHeartbeats 1000000 in
theorem copy_any (p : Nat) (ao : Option Addr) (bs : List ISl) (n cap m : Nat) (w : World) (hc : w.cell? ⟨p, 0, none⟩ = some (.slice ao n cap)) (hb : IntsList w ao bs) (hn : bs.length = n) (hm : ∀ i (hi : i < bs.length), bs[i].zs.length = m) (h0 : 0 < n) (hm0 : 0 < m) (h16 : n ≤ 1000) (h4 : m ≤ 1000) :
    Calls Tryz.prog 57 #[.pointer (some ⟨p, 0, none⟩)] w fun e w' => ∃ q, e = .returned (.pointer (some ⟨q, 0, none⟩)) ∧ PNew 133 w n m (balOf bs) q w' := by
  have HB := Lib.hid hb
  have HN := Lib.hid hn
  have HM := Lib.hid hm
  obtain ⟨i0, hi, hz0, hz1, hz2⟩ := info_parts Try_infoInts
  clear hb hn hm
  go_enter Tryz.func57, Tryz.ntmps57
  go_wp2_with fail
  go_loopw [3, 11] (fun v i wr => ∃ gs : List (Nat × Nat), gs.length ≤ n ∧ i = .int .i64 (gs.length : Nat) ∧ CInv w wr bs m v gs ∧ Below w.heap.size w wr) (fun _ i _ => n + 1 - (intOf i + 1).toNat)
  case atStart => exact ⟨[], Nat.zero_le _, rfl, cinv_nil _ _ _ _ (Nat.le_refl _), Below.refl _ _⟩
  case round =>
    obtain ⟨gs, hk, rfl, hI, hbel⟩ := hrel
    have HI := Lib.hid hI
    have HW := Lib.hid hbel
    have HKL : Hid (gs.length = gs.length) := Lib.hid rfl
    by_cases hlt : gs.length < n
    · have hkb : gs.length < bs.length := by rw [HN.out]; exact hlt
      obtain ⟨ab, aoff, rfl, hcell⟩ := il_cell (HB.out.below hbel) gs.length hkb
      have HSRC := Lib.hid (il_ok (HB.out.below hbel) gs.length hkb).1
      have HZ := Lib.hid (show bs[gs.length].zs = (bs.getD gs.length default).zs by simp [List.getD, hkb])
      have HZM := Lib.hid (HM.out gs.length hkb)
      have hv := hI.own
      rw [HZM.out] at hcell
      generalize hKK : gs.length = K at *
      have HKK := Lib.hid hKK
      generalize hQ : bs[K] = x at *
      have HQ := Lib.hid hQ
      have HO := Lib.hid hv
      clear hI hbel hv hKK hQ
      go_wp2_with fail
      refine (clone_i64 x.ao x.zs m x.cap wr HZM.out HSRC.out hm0 h4).mono ?_
      rintro e w1 ⟨g, c, rfl, hr⟩
      have HR := Lib.hid hr
      have hs1 := hr.2.2.2.2.size
      have HO1 := Lib.hid (ownsRow_same HO.out (fun g hg => hr.2.2.2.2.block g (HO.out.lt g hg).2))
      clear hr
      go_wp2_with (at_builtin; refine wpList_append_any rfl _ _ 22 rfl 60 i0 (.slice none 0 0) 1 24 Tryz.underlying22 hi hz0 hz1 hz2 rfl (by decide) u3 K (gs.map (rowV m)) rfl (HO1.out.alloc _) (some ⟨w1.heap.size, 0, none⟩) 1 1 [rowV m (g, c)] rfl rfl ?c2 ?c3 ?c4 ?c5 ?c6 ?_)
      case c2 => intro e; cases e
      case c3 => intro ad had; cases had; exact World.news_of_block (heap_alloc_new _ _)
      case c4 => simp [Value.oneCell', rowV]
      case c5 => unfold maxLen; omega
      case c6 => omega
      intro ao' cap' w2 hown hgrow hat hnn
      have HC := Lib.hid (cinv_step (c := c) HI.out (by rw [HKK.out]; exact hkb) (by rw [HKK.out]; exact HZ.out) HZM.out HR.out ((Keeps.refl _ _).alloc _) (by rw [HKK.out]; exact hown) hgrow (fun g hg => by simpa using hat g hg))
      have HB2 := Lib.hid (((HW.out.trans (HR.out.2.2.2.2.mono HW.out.size)).alloc (by have := HW.out.size; omega) _).grown hgrow (by have := HW.out.size; simp; omega) (fun k hk => HI.out.fresh k hk))
      clear hown hgrow hat hnn
      go_wp2
      go_roundw
      case rel => exact ⟨gs ++ [(g, c)], by simp [HKK.out]; omega, by simp [HKK.out], HC.out, HB2.out⟩
      case measure => simp [intOf]; omega
    · have hkn : n = gs.length := by omega
      obtain ⟨L, lcap, rfl, hdone⟩ := cinv_done hI hkn.symm h0
      have HD := Lib.hid hdone
      have HKN := Lib.hid hkn
      clear hI hbel hdone hkn hk
      generalize gs.length = K at *
      have hkk : ¬ (K : Int) < (n : Int) := by omega
      clear hlt
      go_wp2
      go_ret
      have hs := HW.out.size
      refine ⟨wr.heap.size, rfl, HD.out 133 _ wr.heap.size (by decide) (by decide) hs (by simp) (heap_alloc_new wr _) (fun k h1 h2 h3 => Below.heap_alloc _ _ _ h2) (by simp) (fun k h1 h2 => by omega), HW.out.alloc hs _⟩

set_option maxHeartbeats 1000000 in
theorem may1_any (x : Option Addr) (nx cx m B b off n cap c0 : Nat) (a0 : Option Addr) (w : World) (hB : w.cell? ⟨B, 0, none⟩ = some (.slice (some ⟨b, off, none⟩) n cap)) (hc : w.cell? ⟨b, off, none⟩ = some (.slice a0 m c0)) (hn : (0 : Int) < (n : Int)) :
    Calls Tryz.prog 92 #[.slice x nx cx, .pointer (some ⟨B, 0, none⟩)] w fun e w' => e = .returned (.bool ((nx : Int) != (m : Int))) ∧ w = w' := by
  go_enter Tryz.func92, Tryz.ntmps92
  go_wp2
  go_ret
  exact ⟨rfl, rfl⟩

def IdxPost (bad : Bool) (w : World) (e : Ending) (w' : World) : Prop := ∃ r : Int, e = .returned (.int .i64 r) ∧ (0 ≤ r ∧ bad = true ∨ r < 0 ∧ bad = false) ∧ w = w'
def badB (bs : List ISl) (m : Nat) : Bool := bs.any (fun x => (x.zs.length : Int) != (m : Int))
theorem badB_take (bs : List ISl) (m k : Nat) (hk : k < bs.length) (h : badB (bs.take k) m = false) (hb : ((bs[k].zs.length : Int) != (m : Int)) = false) : badB (bs.take (k + 1)) m = false := by
  unfold badB at *
  rw [List.take_succ_eq_append_getElem hk, List.any_append, h]
  simp only [List.any_cons, List.any_nil, Bool.or_false, Bool.false_or]; exact hb
theorem badB_at (bs : List ISl) (m k : Nat) (hk : k < bs.length) (hb : ((bs[k].zs.length : Int) != (m : Int)) = true) : badB bs m = true := by
  unfold badB
  exact List.any_eq_true.2 ⟨bs[k], List.getElem_mem hk, hb⟩

set_option maxHeartbeats 1000000 in
theorem idx_any (ao : Option Addr) (bs : List ISl) (n cap m B b off c0 : Nat) (a0 : Option Addr) (w : World) (hn : bs.length = n) (h : IntsList w (some ⟨b, off, none⟩) bs) (hB : w.cell? ⟨B, 0, none⟩ = some (.slice (some ⟨b, off, none⟩) n cap)) (hc : w.cell? ⟨b, off, none⟩ = some (.slice a0 m c0)) (h0 : (0 : Int) < (n : Int)) (h16 : n ≤ 1000) :
    Calls Tryz.prog 116 #[.slice (some ⟨b, off, none⟩) n cap, .func (Fn.func 92) #[] #[.pointer (some ⟨B, 0, none⟩)]] w (IdxPost (badB bs m) w) := by
  have HB := Lib.hid h
  have HN := Lib.hid hn
  have HC := Lib.hid (fun (x : Option Addr) (nx cx : Nat) => may1_any x nx cx m B b off n cap c0 a0 w hB hc h0)
  clear hn h hB hc
  go_enter Tryz.func116, Tryz.ntmps116
  go_wp2_with fail
  go_loop [8] (fun i => ∃ k : Nat, k ≤ n ∧ i = .int .i64 k ∧ badB (bs.take k) m = false) (fun i => n + 1 - (intOf i + 1).toNat)
  case atStart => exact ⟨0, Nat.zero_le _, rfl, rfl⟩
  case round =>
    obtain ⟨k, hk, rfl, hbad⟩ := hrel
    by_cases hlt : k < n
    · have hkb : k < bs.length := by rw [HN.out]; exact hlt
      obtain ⟨b', off', he, hcell⟩ := il_cell HB.out k hkb
      simp only [Option.some.injEq, Addr.mk.injEq, and_true] at he
      obtain ⟨rfl, rfl⟩ := he
      have HT := Lib.hid (badB_take bs m k hkb hbad)
      have HA := Lib.hid (badB_at bs m k hkb)
      clear hbad
      generalize bs[k] = x at *
      cases hq : ((x.zs.length : Int) != (m : Int))
      · have HQ := Lib.hid hq
        clear hq
        go_wp2_with (go_at_call 92; refine (HC.out _ _ _).mono ?_; rintro e w' ⟨rfl, rfl⟩; rw [HQ.out])
        go_round
        case rel => exact ⟨k + 1, by omega, by go_num, HT.out HQ.out⟩
        case measure => simp [intOf]; omega
      · have HQ := Lib.hid hq
        clear hq
        go_wp2_with (go_at_call 92; refine (HC.out _ _ _).mono ?_; rintro e w' ⟨rfl, rfl⟩; rw [HQ.out])
        go_ret
        exact ⟨k, rfl, Or.inl ⟨by omega, HA.out HQ.out⟩, rfl⟩
    · obtain rfl : k = n := by omega
      have HX := Lib.hid (show badB bs m = false by rw [List.take_of_length_le (by rw [HN.out]; exact Nat.le_refl _)] at hbad; exact hbad)
      clear hbad hlt
      go_wp2
      go_ret
      exact ⟨-1, rfl, Or.inr ⟨by omega, HX.out⟩, rfl⟩

set_option maxHeartbeats 1000000 in
theorem contains_any (ao : Option Addr) (bs : List ISl) (n cap m B b off c0 : Nat) (a0 : Option Addr) (w : World) (hn : bs.length = n) (h : IntsList w (some ⟨b, off, none⟩) bs) (hB : w.cell? ⟨B, 0, none⟩ = some (.slice (some ⟨b, off, none⟩) n cap)) (hc : w.cell? ⟨b, off, none⟩ = some (.slice a0 m c0)) (h0 : (0 : Int) < (n : Int)) (h16 : n ≤ 1000) :
    Calls Tryz.prog 91 #[.slice (some ⟨b, off, none⟩) n cap, .func (Fn.func 92) #[] #[.pointer (some ⟨B, 0, none⟩)]] w fun e w' => e = .returned (.bool (badB bs m)) ∧ w = w' := by
  have HC := Lib.hid (idx_any ao bs n cap m B b off c0 a0 w hn h hB hc h0 h16)
  clear hn h hB hc
  go_enter Tryz.func91, Tryz.ntmps91
  go_wp2_with fail
  refine HC.out.mono ?_
  rintro e w' ⟨r, rfl, hr, rfl⟩
  rcases hr with ⟨h1, h2⟩ | ⟨h1, h2⟩
  all_goals
    have HB := Lib.hid h2
    clear h2
    go_wp2
    go_ret
    exact ⟨ret_bool (by rw [HB.out] <;> first | (rw [decide_eq_true_iff]; exact h1) | (rw [decide_eq_false_iff_not]; omega)), rfl⟩

/-! What may says. -/
def colOf (bs : List ISl) (j : Nat) : List Int := bs.map (fun x => x.zs.getD j 0)
def colsB (bs : List ISl) (m : Nat) : Bool := (List.range m).all fun j => sumE (colOf bs j) == 0
def mayF (bs : List ISl) : Bool :=
  decide (2 ≤ bs.length ∧ bs.length ≤ 16) && decide (1 ≤ (bs.getD 0 default).zs.length ∧ (bs.getD 0 default).zs.length ≤ 4) && !badB bs (bs.getD 0 default).zs.length && colsB bs (bs.getD 0 default).zs.length
theorem colOf_take (bs : List ISl) (j k : Nat) (hk : k < bs.length) : (colOf bs j).take (k + 1) = (colOf bs j).take k ++ [bs[k].zs.getD j 0] := by
  rw [List.take_succ_eq_append_getElem (by simpa [colOf] using hk)]; simp [colOf]
theorem badB_len {bs : List ISl} {m : Nat} (h : badB bs m = false) : ∀ i (hi : i < bs.length), bs[i].zs.length = m := fun i hi => by
  unfold badB at h
  rw [List.any_eq_false] at h
  have := h bs[i] (List.getElem_mem hi)
  simp at this; omega
theorem sum_tot (bs : List ISl) (j : Nat) (h : sumE (colOf bs j) = 0) : ∀ k, k ≤ bs.length → sumF ((colOf bs j).take k) = (tot (balOf bs) j k, 0) ∧ (∀ i, i < k → 0 ≤ balOf bs i j) ∧ tot (balOf bs) j k ≤ 4611686018427387904 := by
  intro k
  induction k with
  | zero => intro _; exact ⟨rfl, fun i hi => by omega, by simp [tot]⟩
  | succ k ih =>
    intro hk
    obtain ⟨h1, h2, h3⟩ := ih (by omega)
    have e : (bs[k]'(by omega)).zs.getD j 0 = balOf bs k j := by simp [balOf, List.getD, show k < bs.length by omega]
    have hs : sumE ((colOf bs j).take (k + 1)) = 0 := Decidable.byContradiction fun hne => by
      have := sum_stop (colOf bs j) (k + 1) hne
      unfold sumE at hne h
      rw [this] at h; exact hne h
    rw [colOf_take bs j k (by omega), e] at hs ⊢
    unfold sumE at hs
    rw [sumF_snoc, h1] at hs ⊢
    simp only [sumStep, if_true] at hs ⊢
    have hok : addOK (tot (balOf bs) j k) (balOf bs k j) = true := Decidable.byContradiction fun hne => by
      simp [addE, hne] at hs
    obtain ⟨a1, a2⟩ := addVE _ _ hok
    rw [a1, a2]
    simp only [addOK, bothB, Bool.and_eq_true, amt_iff] at hok
    unfold MA at hok
    refine ⟨rfl, fun i hi => ?_, by rw [tot]; omega⟩
    by_cases e' : i = k
    · subst e'; omega
    · exact h2 i (by omega)
theorem mayF_good {bs : List ISl} (h : mayF bs = true) : Good bs.length (bs.getD 0 default).zs.length (balOf bs) ∧ ∀ i (hi : i < bs.length), bs[i].zs.length = (bs.getD 0 default).zs.length := by
  simp only [mayF, Bool.and_eq_true, decide_eq_true_eq, Bool.not_eq_true'] at h
  obtain ⟨⟨⟨⟨h1, h2⟩, h3, h4⟩, h5⟩, h6⟩ := h
  have hc : ∀ j, j < (bs.getD 0 default).zs.length → sumE (colOf bs j) = 0 := fun j hj => by
    have := List.all_eq_true.1 h6 j (List.mem_range.2 hj)
    simpa using this
  refine ⟨⟨h1, h2, h3, h4, fun i hi j hj => (sum_tot bs j (hc j hj) _ (Nat.le_refl _)).2.1 i hi, fun j hj => (sum_tot bs j (hc j hj) _ (Nat.le_refl _)).2.2⟩, badB_len h5⟩

/-- A row of ints of the call's own. -/
def RowAtI (w0 : World) (v : Value) (zs : List Int) (w : World) : Prop :=
  w.ownsRow 0 3 1 v zs.length (zs.map (Value.int .i64)) ∧ Below w0.heap.size w0 w ∧ (∀ g, v.ownBlock = some g → w0.heap.size ≤ g)
theorem rowI_nil (w0 w : World) (h : Below w0.heap.size w0 w) : RowAtI w0 (.slice none 0 0) [] w := ⟨World.ownsRow_nil _ _ _ _, h, fun g hg => by cases hg⟩
theorem rowI_step {w0 wr wa w1 : World} {v v' : Value} {zs : List Int} {z : Int} (h : RowAtI w0 v zs wr) (ha : Below w0.heap.size wr wa) (hown : w1.ownsRow 0 3 1 v' (zs.length + 1) (zs.map (Value.int .i64) ++ [.int .i64 z])) (hg : wa.grownBy w1 v.ownBlock) (hat : ∀ g, v'.ownBlock = some g → v.ownBlock = some g ∨ g = wa.heap.size) : RowAtI w0 v' (zs ++ [z]) w1 := by
  obtain ⟨h1, h2, h3⟩ := h
  have hs := h2.size
  have hs2 := ha.size
  refine ⟨by simpa using hown, (h2.trans ha).grown hg (by omega) h3, fun g hg' => ?_⟩
  rcases hat g hg' with e | e
  · exact h3 g e
  · omega
theorem rowI_done {w0 w : World} {v : Value} {zs : List Int} {n : Nat} (h : RowAtI w0 v zs w) (hn : zs.length = n) : ∃ ao cap, v = .slice ao n cap ∧ IntsAt .i64 w ao zs := by
  subst hn
  have h' := h.1
  have hf : ∃ ao cap, v = .slice ao zs.length cap := by
    rcases h'.2 with ⟨hv, hn⟩ | ⟨g, cap, cur, hv, _⟩
    · exact ⟨none, 0, by rw [hv, hn]⟩
    · exact ⟨_, cap, hv⟩
  obtain ⟨ao, cap, rfl⟩ := hf
  exact ⟨ao, cap, rfl, (owns_at h').2.1⟩

/-- The columns so far are fine. -/
def ColsTo (bs : List ISl) (k : Nat) : Prop := ∀ j, j < k → sumE (colOf bs j) = 0

set_option maxRecDepth 100000 in
set_option maxHeartbeats 4000000 in
theorem pmay_any (ao : Option Addr) (bs : List ISl) (n cap : Nat) (w : World) (hn : bs.length = n) (h : IntsList w ao bs) :
    Calls Tryz.prog 56 #[.slice ao n cap] w fun e w' => e = .returned (.bool (mayF bs)) ∧ Below w.heap.size w w' := by
  have HN := Lib.hid hn
  have HB := Lib.hid h
  by_cases h2 : (n : Int) < 2
  · have HF := Lib.hid (show mayF bs = false by simp [mayF, hn]; omega)
    clear h hn
    go_enter Tryz.func56, Tryz.ntmps56
    go_wp2
    go_ret
    exact ⟨ret_bool HF.out.symm, (Below.refl _ _).alloc (Nat.le_refl _) _⟩
  by_cases h16 : (16 : Int) < (n : Int)
  · have HF := Lib.hid (show mayF bs = false by simp [mayF, hn]; omega)
    clear h hn
    go_enter Tryz.func56, Tryz.ntmps56
    go_wp2
    go_ret
    exact ⟨ret_bool HF.out.symm, (Below.refl _ _).alloc (Nat.le_refl _) _⟩
  have h0b : 0 < bs.length := by omega
  obtain ⟨b, off, rfl, hc0⟩ := il_cell h 0 h0b
  have hbl := World.block_lt_of_cell? w _ hc0
  have hcw : ∀ w', Below w.heap.size w w' → w'.cell? ⟨b, off + 0, none⟩ = some (.slice bs[0].ao bs[0].zs.length bs[0].cap) := fun w' hb => (hb.cell (p := ⟨b, off + 0, none⟩) hbl).trans hc0
  rw [Nat.add_zero] at hcw
  have hx0 : bs.getD 0 default = bs[0] := by simp [List.getD, h0b]
  have HFX : Hid (mayF bs = (decide (1 ≤ bs[0].zs.length ∧ bs[0].zs.length ≤ 4) && !badB bs bs[0].zs.length && colsB bs bs[0].zs.length)) := Lib.hid (by
    unfold mayF; rw [hx0, hn]
    have : (2 ≤ n ∧ n ≤ 16) := by omega
    simp [this])
  generalize hbx : bs[0] = x0 at *
  have HX0 := Lib.hid hbx
  have a1 := hcw (w.alloc (.cells #[.slice (some ⟨b, off, none⟩) n cap] 22)) ((Below.refl _ _).alloc (Nat.le_refl _) _)
  have HCW := Lib.hid hcw
  have i0 : (0 : Int) < (n : Int) := by omega
  clear hcw hc0 hx0 hbx h
  by_cases h1 : (x0.zs.length : Int) < 1
  · have HF := Lib.hid (show mayF bs = false by rw [HFX.out]; simp; omega)
    clear hn
    go_enter Tryz.func56, Tryz.ntmps56
    go_wp2
    go_ret
    exact ⟨ret_bool HF.out.symm, (Below.refl _ _).alloc (Nat.le_refl _) _⟩
  by_cases h4 : (4 : Int) < (x0.zs.length : Int)
  · have HF := Lib.hid (show mayF bs = false by rw [HFX.out]; simp; omega)
    clear hn
    go_enter Tryz.func56, Tryz.ntmps56
    go_wp2
    go_ret
    exact ⟨ret_bool HF.out.symm, (Below.refl _ _).alloc (Nat.le_refl _) _⟩
  have HW1 := Lib.hid (show Below w.heap.size w (w.alloc (.cells #[.slice (some ⟨b, off, none⟩) n cap] 22)) from (Below.refl _ _).alloc (Nat.le_refl _) _)
  have HCON := Lib.hid (contains_any none bs n cap x0.zs.length w.heap.size b off x0.cap x0.ao (w.alloc (.cells #[.slice (some ⟨b, off, none⟩) n cap] 22)) hn (HB.out.below HW1.out) (by simp) a1 i0 (by omega))
  have HFY : Hid (mayF bs = (!badB bs x0.zs.length && colsB bs x0.zs.length)) := Lib.hid (by
    rw [HFX.out]
    have : (1 ≤ x0.zs.length ∧ x0.zs.length ≤ 4) := by omega
    simp [this])
  clear hn HFX
  cases hbad : badB bs x0.zs.length
  · have HL := Lib.hid (badB_len hbad)
    have HBAD := Lib.hid hbad
    have HFZ : Hid (mayF bs = colsB bs x0.zs.length) := Lib.hid (by rw [HFY.out, hbad]; rfl)
    clear hbad HFY
    generalize hm : x0.zs.length = m at *
    clear hm
    have k0 : (w.alloc (.cells #[.slice (some ⟨b, off, none⟩) n cap] 22)).cell? ⟨w.heap.size, 0, none⟩ = some (.slice (some ⟨b, off, none⟩) n cap) := by simp
    have hsz : w.heap.size < (w.alloc (.cells #[.slice (some ⟨b, off, none⟩) n cap] 22)).heap.size := by simp
    go_enter Tryz.func56, Tryz.ntmps56
    go_wp2_with fail
    generalize w.alloc (.cells #[.slice (some ⟨b, off, none⟩) n cap] 22) = wA at *
    have K0 := Lib.hid k0
    refine HCON.out.mono ?_
    rintro e w' ⟨rfl, rfl⟩
    rw [HBAD.out]
    go_wp2_with fail
    go_loopw [38] (fun i wr => ∃ k : Nat, k ≤ m ∧ i = .int .i64 k ∧ ColsTo bs k ∧ Below wA.heap.size wA wr) (fun i _ => m + 1 - (intOf i + 1).toNat)
    case atStart => exact ⟨0, Nat.zero_le _, rfl, fun j hj => by omega, Below.refl _ _⟩
    case round =>
      obtain ⟨k, hk, rfl, hcols, hbel⟩ := hrel
      have HCOLS := Lib.hid hcols
      have HW := Lib.hid hbel
      have c0 : wr.cell? ⟨w.heap.size, 0, none⟩ = some (.slice (some ⟨b, off, none⟩) n cap) := (hbel.cell (p := ⟨w.heap.size, 0, none⟩) hsz).trans K0.out
      clear hcols hbel
      by_cases hlt : k < m
      · obtain ⟨wo, rfl⟩ : ∃ wo : World, wo = wr := ⟨_, rfl⟩
        go_wp2_with fail
        go_loopw [4, 43] (fun v i wr => ∃ q : Nat, q ≤ n ∧ i = .int .i64 q ∧ RowAtI wA v ((colOf bs k).take q) wr) (fun _ i _ => n + 1 - (intOf i + 1).toNat)
        case atStart => exact ⟨0, Nat.zero_le _, rfl, rowI_nil _ _ HW.out⟩
        case round =>
          obtain ⟨q, hq, rfl, hrow⟩ := hrel
          have HROW := Lib.hid hrow
          have HO := Lib.hid hrow.1
          have HBW := Lib.hid (HW1.out.trans (hrow.2.1.mono HW1.out.size))
          have HLEN : Hid (((colOf bs k).take q).length = q) := Lib.hid (by simp [colOf, HN.out]; omega)
          clear hrow
          by_cases hql : q < n
          · have hqb : q < bs.length := by rw [HN.out]; exact hql
            obtain ⟨b', off', he, hcell⟩ := il_cell (HB.out.below HBW.out) q hqb
            simp only [Option.some.injEq, Addr.mk.injEq, and_true] at he
            obtain ⟨rfl, rfl⟩ := he
            have hin := (il_ok (HB.out.below HBW.out) q hqb).1
            have hxl := HL.out q hqb
            have HCT := Lib.hid (colOf_take bs k q hqb)
            rw [hxl] at hcell
            generalize bs[q] = x at *
            obtain ⟨xb, xoff, hxa, hxc⟩ : ∃ xb xoff, x.ao = some ⟨xb, xoff, none⟩ ∧ wr.cell? ⟨xb, xoff + k, none⟩ = some (.int .i64 (x.zs.getD k 0)) := by
              rcases hin with h | ⟨xb, xoff, h1, h2⟩
              · rw [h] at hxl; simp at hxl; omega
              · exact ⟨xb, xoff, h1, h2 k (by omega)⟩
            rw [hxa] at hcell
            generalize x.zs.getD k 0 = z at *
            clear hin hxl hxa
            have HLE := Lib.hid HLEN.out
            generalize (colOf bs k).take q = zs at *
            obtain ⟨i0', hi, hz0, hz1, hz2⟩ := info_parts Try_infoI64
            go_wp2_with (at_builtin; refine wpList_append_any rfl _ _ 60 rfl 3 i0' (.int .i64 0) 1 8 Tryz.underlying60 hi hz0 hz1 hz2 rfl (by decide) u4 zs.length (zs.map (Value.int .i64)) rfl (HO.out.alloc _) (some ⟨wr.heap.size, 0, none⟩) 1 1 [.int .i64 z] rfl rfl ?c2 ?c3 ?c4 ?c5 ?c6 ?_)
            case c2 => intro e; cases e
            case c3 => intro ad had; cases had; exact World.news_of_block (heap_alloc_new _ _)
            case c4 => simp [Value.oneCell']
            case c5 => have := HLE.out; unfold maxLen; omega
            case c6 => have := HLE.out; omega
            intro ao' cap' w3 hown hgrow hat hnn
            have HR := Lib.hid (rowI_step (z := z) HROW.out ((Below.refl _ _).alloc HROW.out.2.1.size _) hown hgrow (fun g hg => by simpa using hat g hg))
            clear hown hgrow hat hnn
            go_wp2
            go_roundw
            case rel => exact ⟨q + 1, by omega, by go_num, by rw [HCT.out]; exact HR.out⟩
            case measure => simp [intOf]; omega
          · obtain rfl : q = n := by omega
            have HTK : Hid ((colOf bs k).take q = colOf bs k) := Lib.hid (List.take_of_length_le (by simp [colOf, HN.out]))
            rw [HTK.out] at HROW HLEN
            obtain ⟨ao', cap', rfl, hints⟩ := rowI_done HROW.out HLEN.out
            have HS := Lib.hid (by have := sum_any ao' (colOf bs k) cap' wr hints (by rw [HLEN.out]; omega); rw [HLEN.out] at this; exact this)
            have HBX := Lib.hid HROW.out.2.1
            clear hql hints HROW HO HTK
            by_cases hs : sumE (colOf bs k) = 0
            · have HSE := Lib.hid hs
              clear hs
              go_wp2_with (go_at_call 93; refine HS.out.mono ?_; rintro e w' ⟨rfl, rfl⟩; rw [HSE.out])
              go_roundw
              case rel => exact ⟨k + 1, by omega, by go_num, fun j hj => by
                by_cases e : j = k
                · rw [e]; exact HSE.out
                · exact HCOLS.out j (by omega), HBX.out⟩
              case measure => simp [intOf]; omega
            · have HSE : Hid (sumE (colOf bs k) = 1) := Lib.hid (by rcases sumF_bad (colOf bs k) with h | h; exact absurd h hs; exact h.1)
              have HF : Hid (colsB bs m = false) := Lib.hid (by
                rw [← Bool.not_eq_true]
                intro h
                have := List.all_eq_true.1 h k (List.mem_range.2 hlt)
                rw [HSE.out] at this; simp at this)
              clear hs
              go_wp2_with (go_at_call 93; refine HS.out.mono ?_; rintro e w' ⟨rfl, rfl⟩; rw [HSE.out])
              go_ret
              exact ⟨ret_bool (by rw [HFZ.out, HF.out]), HBW.out⟩
      · obtain rfl : k = m := by omega
        have HF : Hid (colsB bs k = true) := Lib.hid (by
          unfold colsB
          rw [List.all_eq_true]
          intro j hj
          rw [HCOLS.out j (List.mem_range.1 hj)]; rfl)
        have HBW := Lib.hid (HW1.out.trans (HW.out.mono HW1.out.size))
        clear hlt
        go_wp2
        go_ret
        exact ⟨ret_bool (by rw [HFZ.out, HF.out]), HBW.out⟩
  · have HF : Hid (mayF bs = false) := Lib.hid (by rw [HFY.out, hbad]; rfl)
    have HBAD := Lib.hid hbad
    clear hbad HFY
    go_enter Tryz.func56, Tryz.ntmps56
    go_wp2_with fail
    generalize w.alloc (.cells #[.slice (some ⟨b, off, none⟩) n cap] 22) = wA at *
    refine HCON.out.mono ?_
    rintro e w' ⟨rfl, rfl⟩
    rw [HBAD.out]
    go_wp2
    go_ret
    exact ⟨ret_bool HF.out.symm, HW1.out⟩

theorem PAt.mono {T : TypeId} {w : World} {p n m : Nat} {S S' : Nat → Prop} {b : Nat → Nat → Int} (h : PAt T w p S n m b) (hs : ∀ k, S k → S' k) (hl : ∀ k, S' k → k < w.heap.size) : PAt T w p S' n m b := by
  obtain ⟨L, lcap, G, C, h1, h2, h3⟩ := h
  exact ⟨L, lcap, G, C, h1, fun k hk => hs k (h2 k hk), hl⟩
theorem PNew.from_ {T : TypeId} {w0 w w' : World} {q n m : Nat} {b : Nat → Nat → Int} (h : PNew T w n m b q w') (hb : Below w0.heap.size w0 w) : PNew T w0 n m b q w' :=
  ⟨h.1.mono (fun k hk => ⟨by have := hb.size; omega, hk.2⟩) (fun k hk => hk.2), hb.trans (h.2.mono hb.size)⟩

set_option maxHeartbeats 1000000 in
theorem new_no (ao : Option Addr) (bs : List ISl) (n cap : Nat) (w : World) (hn : bs.length = n) (h : IntsList w ao bs) (hm : mayF bs = false) :
    Calls Tryz.prog 29 #[.slice ao n cap] w fun e w' => e = .returned (.tuple #[.pointer none, .int .i64 1]) ∧ Below w.heap.size w w' := by
  have HM := Lib.hid (pmay_any ao bs n cap w hn h)
  have HF := Lib.hid hm
  clear hn h hm
  go_enter Tryz.func29, Tryz.ntmps29
  go_wp2_with fail
  refine HM.out.mono ?_
  rintro e w1 ⟨rfl, hb⟩
  rw [HF.out]
  have HB := Lib.hid hb
  clear hb
  go_wp2
  go_ret2
  exact ⟨rfl, HB.out⟩

set_option maxHeartbeats 1000000 in
theorem new_yes (ao : Option Addr) (bs : List ISl) (n cap m : Nat) (w : World) (hn : bs.length = n) (h : IntsList w ao bs) (hm : mayF bs = true) (hm2 : (bs.getD 0 default).zs.length = m) :
    Calls Tryz.prog 29 #[.slice ao n cap] w fun e w' => ∃ q, e = .returned (.tuple #[.pointer (some ⟨q, 0, none⟩), .int .i64 0]) ∧ PNew 133 w n m (balOf bs) q w' := by
  have HM := Lib.hid (pmay_any ao bs n cap w hn h)
  have HF := Lib.hid hm
  obtain ⟨hg, hl⟩ := mayF_good hm
  rw [hm2] at hl hg
  rw [hn] at hg
  have HL := Lib.hid hl
  have h2 := hg.n2
  have h16 := hg.n16
  have h1 := hg.m1
  have h4 := hg.m4
  have HN := Lib.hid hn
  have HH := Lib.hid h
  clear hn h hm hl hg hm2
  go_enter Tryz.func29, Tryz.ntmps29
  go_wp2_with fail
  refine HM.out.mono ?_
  rintro e w1 ⟨rfl, hb⟩
  rw [HF.out]
  have hb2 : Below w.heap.size w (w1.alloc (.cells #[.slice ao n cap] 133)) := hb.alloc hb.size _
  have HB := Lib.hid hb2
  have HI := Lib.hid (HH.out.below hb2)
  clear hb hb2
  go_wp2_with fail
  refine (copy_any w1.heap.size ao bs n cap m _ (by simp) HI.out HN.out HL.out (by omega) (by omega) (by omega) (by omega)).mono ?_
  rintro e w2 ⟨q, rfl, hq⟩
  have HQ := Lib.hid (hq.from_ HB.out)
  clear hq
  go_wp2
  go_ret2
  exact ⟨q, rfl, HQ.out⟩

def rows2 (h : Nat) (a b : Int) : List ISl := [⟨some ⟨h, 0, none⟩, [a], 1⟩, ⟨some ⟨h + 1, 0, none⟩, [b], 1⟩]
def world2 (w : World) (a b : Int) : World := ((w.alloc (.cells #[.int .i64 a] 3)).alloc (.cells #[.int .i64 b] 3)).alloc (.cells #[.slice (some ⟨w.heap.size, 0, none⟩) 1 1, .slice (some ⟨w.heap.size + 1, 0, none⟩) 1 1] 60)
theorem world2_below (w : World) (a b : Int) : Below w.heap.size w (world2 w a b) := (((Below.refl _ _).alloc (Nat.le_refl _) _).alloc (by simp) _).alloc (by simp; omega) _
theorem world2_rows (w : World) (a b : Int) (ha : -9223372036854775808 ≤ a ∧ a ≤ 9223372036854775807) (hb : -9223372036854775808 ≤ b ∧ b ≤ 9223372036854775807) : IntsList (world2 w a b) (some ⟨w.heap.size + 2, 0, none⟩) (rows2 w.heap.size a b) := by
  have s1 : (w.alloc (.cells #[.int .i64 a] 3)).heap.size = w.heap.size + 1 := by simp
  have s2 : ((w.alloc (.cells #[.int .i64 a] 3)).alloc (.cells #[.int .i64 b] 3)).heap.size = w.heap.size + 2 := by simp
  have e0 : (world2 w a b).heap[w.heap.size]? = some (.cells #[.int .i64 a] 3 (0, 0)) := (Below.heap_alloc _ _ _ (by omega)).trans ((Below.heap_alloc _ _ _ (by omega)).trans (heap_alloc_new w _))
  have e1 : (world2 w a b).heap[w.heap.size + 1]? = some (.cells #[.int .i64 b] 3 (0, 0)) := (Below.heap_alloc _ _ _ (by omega)).trans (by rw [← s1]; exact heap_alloc_new _ _)
  have e2 : (world2 w a b).heap[w.heap.size + 2]? = some (.cells #[.slice (some ⟨w.heap.size, 0, none⟩) 1 1, .slice (some ⟨w.heap.size + 1, 0, none⟩) 1 1] 60 (0, 0)) := by rw [← s2]; exact heap_alloc_new _ _
  refine ⟨Or.inr ⟨_, _, rfl, fun i hi => ?_⟩, fun x hx => ?_⟩
  · rw [blk_cell e2]
    match i, hi with
    | 0, _ => rfl
    | 1, _ => rfl
  · simp only [rows2, List.mem_cons, List.not_mem_nil, or_false] at hx
    rcases hx with rfl | rfl
    · exact ⟨Or.inr ⟨_, _, rfl, fun i hi => by rw [blk_cell e0]; match i, hi with | 0, _ => rfl⟩, fun z hz => by simp at hz; subst hz; exact ha, Nat.le_refl _, by show 1 ≤ maxLen; decide⟩
    · exact ⟨Or.inr ⟨_, _, rfl, fun i hi => by rw [blk_cell e1]; match i, hi with | 0, _ => rfl⟩, fun z hz => by simp at hz; subst hz; exact hb, Nat.le_refl _, by show 1 ≤ maxLen; decide⟩
def ex9 (h : Nat) : List ISl := rows2 h 5 0
theorem ex9_may (h : Nat) : mayF (ex9 h) = true := by kernel_rfl
theorem ex9_take (h : Nat) : takeE 2 1 (balOf (ex9 h)) 0 0 6 = 7 ∧ takeN 2 1 (balOf (ex9 h)) 0 0 6 = balOf (ex9 h) := ⟨by kernel_rfl, by kernel_rfl⟩
theorem ex9_move (h : Nat) : moveE 2 1 (balOf (ex9 h)) 0 1 0 5 = 0 ∧ getB 2 1 (moveN 2 1 (balOf (ex9 h)) 0 1 0 5) 1 0 = 5 := ⟨by kernel_rfl, by kernel_rfl⟩


end Go.Proofs.YtkaciaehlibidaaGreat
