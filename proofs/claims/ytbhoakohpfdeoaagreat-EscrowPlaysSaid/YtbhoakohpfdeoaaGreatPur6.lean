/- Contract of the reference's NewPurse. -/
import Derived.Test.YtbhoakohpfdeoaaGreatPur5
import Derived.Test.YtbhoakohpfdeoaaGreatPur2
import Derived.Test.YtbhoakohpfdeoaaGreatRsum
namespace Go.Proofs.YtbhoakohpfdeoaaGreat
open Go.RowKit
set_option linter.unusedVariables false

set_option maxHeartbeats 1000000 in
theorem copyInts (ao : Option Addr) (zs : List Int) (n cap : Nat) (w : World) (hn : zs.length = n) (h : IntsAt .i64 w ao zs) (h0 : 0 < n) (hm : n ≤ 1000) :
    Calls Tryz.prog 27 #[.slice ao n cap] w fun e w' => ∃ g cap', e = .returned (.slice (some ⟨g, 0, none⟩) n cap') ∧ RowNew w zs w' g cap' := by
  have HN := Lib.hid hn
  have H := Lib.hid h
  obtain ⟨i0, hi, hz0, hz1, hz2⟩ := info_parts Try_infoI64
  clear hn h
  go_enter Tryz.func27, Tryz.ntmps27
  go_wp2_with (at_builtin; refine wpList_append_any rfl _ _ 54 rfl 3 i0 (.int .i64 0) 1 8 Tryz.underlying54 hi hz0 hz1 hz2 rfl (by decide) (.slice (some ⟨w.heap.size, 0, none⟩) 0 0) 0 [] rfl (World.ownsRow_made w #[] 0 (Nat.zero_le _) (Nat.zero_le _) rfl) ao n cap (zs.map (Value.int .i64)) rfl ?c1 ?c2 ?c3 (ints_one _ _) ?c5 ?c6 ?_)
  case c1 => simp; exact HN.out
  case c2 => intro e; have h := H.out; rw [e] at h; have := ints_none h; have := HN.out; omega
  case c3 => exact src_ints (ints_below H.out ((Below.refl _ _).alloc (Nat.le_refl _) _))
  case c5 => unfold maxLen; omega
  case c6 => omega
  intro ao' cap' w1 hown hgrow hat hnn
  have HR := Lib.hid (rowNew_of (w := w) (cap := cap') HN.out h0 (ao := ao') (by simpa using hown) (((Below.refl _ _).alloc (Nat.le_refl _) _).grown hgrow (by simp) (fun k hk => by simp only [Value.ownBlock, Option.some.injEq] at hk; omega)) (fun g hg => by
    rcases hat g (by simpa using hg) with e | e
    · simp only [Value.ownBlock, Option.some.injEq] at e; omega
    · rw [e]; simp))
  clear hown hgrow hat hnn
  go_wp2
  go_ret
  obtain ⟨g, rfl, hr⟩ := HR.out
  exact ⟨g, cap', ret_val (a := .slice (some ⟨g, 0, none⟩) n cap') rfl, hr⟩

def NewP (T : TypeId) (w : World) (n m : Nat) (bs : List ISl) (e : Ending) (w' : World) : Prop :=
  (mayF bs = true ∧ ∃ q, e = .returned (.tuple #[.pointer (some ⟨q, 0, none⟩), .int .i64 0]) ∧ PNew T w n m (balOf bs) q w') ∨ (mayF bs = false ∧ e = .returned (.tuple #[.pointer none, .int .i64 1]) ∧ Below w.heap.size w w')

/-- A purse that is being made: its box p, its list so far. -/
structure Making (T : TypeId) (w wr : World) (p m : Nat) (bs : List ISl) (v : Value) (gs : List (Nat × Nat)) : Prop where
  box : wr.heap[p]? = some (.cells #[v] T (0, 0))
  inv : CInv w wr bs m v gs
  base : Below w.heap.size w wr
theorem cinv_ne {T : TypeId} {w wr : World} {p m : Nat} {bs : List ISl} {v : Value} {gs : List (Nat × Nat)} {cs : Array Value} (h : CInv w wr bs m v gs) (hbox : wr.heap[p]? = some (.cells cs T (0, 0))) (hT1 : T ≠ 3) (hT2 : T ≠ 54) : v.ownBlock ≠ some p ∧ ∀ k (hk : k < gs.length), gs[k].1 ≠ p := by
  refine ⟨fun he => ?_, fun k hk e => ?_⟩
  · rcases h.own.2 with ⟨rfl, _⟩ | ⟨g, cap, cur, rfl, _, hh, _⟩
    · cases he
    · simp only [Value.ownBlock, Option.some.injEq] at he
      subst he
      rw [hh] at hbox
      simp only [Option.some.injEq, Obj.cells.injEq, and_true] at hbox
      exact hT2 hbox.2.symm
  · obtain ⟨⟨cs, h1, _⟩, _⟩ := h.row k hk
    rw [e, hbox] at h1
    simp only [Option.some.injEq, Obj.cells.injEq, and_true] at h1
    exact hT1 h1.2
theorem Making.below {T : TypeId} {w wr w' : World} {p m : Nat} {bs : List ISl} {v : Value} {gs : List (Nat × Nat)} (h : Making T w wr p m bs v gs) (hb : Below wr.heap.size wr w') : Making T w w' p m bs v gs :=
  ⟨(hb.block p (blk_lt h.box)).trans h.box, h.inv.keep (S := fun _ => False) (Keeps.of_below hb) (fun _ f => f.elim), h.base.trans (hb.mono h.inv.size)⟩
theorem making_step {T : TypeId} {w wr w1 wa w2 : World} {p m : Nat} {bs : List ISl} {v v' : Value} {gs : List (Nat × Nat)} {g c : Nat} {zs : List Int} (hT1 : T ≠ 3) (hT2 : T ≠ 54) (h : Making T w wr p m bs v gs) (hp : w.heap.size ≤ p) (hl : gs.length < bs.length) (hz : zs = (bs.getD gs.length default).zs) (hzm : zs.length = m)
    (hr : RowNew wr zs w1 g c) (ha : Keeps (fun _ => False) w1 wa)
    (hown : w2.ownsRow 0 54 1 v' (gs.length + 1) (gs.map (rowV m) ++ [rowV m (g, c)])) (hgrow : wa.grownBy w2 v.ownBlock) (hat : ∀ g, v'.ownBlock = some g → v.ownBlock = some g ∨ g = wa.heap.size) :
    Making T w (w2.setCell ⟨p, 0, none⟩ v') p m bs v' (gs ++ [(g, c)]) := by
  have hc := cinv_step h.inv hl hz hzm hr ha hown hgrow hat
  have hpl := blk_lt h.box
  have hs := h.inv.size
  have hb1 := hr.2.2.2.2
  have hs1 := hb1.size
  have hs2 := ha.size
  have hne := cinv_ne h.inv h.box hT1 hT2
  have hbox2 : w2.heap[p]? = some (.cells #[v] T (0, 0)) := (hgrow.block p (by omega) (fun e => hne.1 e.symm)).trans ((ha.block p (by omega) (fun f => f)).trans ((hb1.block p hpl).trans h.box))
  have hB2 : Below w.heap.size w w2 := ((h.base.trans (hb1.mono hs)).trans (ha.below (by omega) (fun _ f => f.elim))).grown hgrow (by omega) (fun k hk => h.inv.fresh k hk)
  have hfar := cinv_ne hc hbox2 hT1 hT2
  exact ⟨by simpa using blk_set hbox2 0 v', ⟨ownsRow_same hc.own (fun k hk => Below.heap_setCell _ _ _ _ (fun e => hfar.1 (by rw [hk, e]))), by simpa [World.setCell] using hc.size, hc.fresh, fun k hk => by
      obtain ⟨⟨cs, h1, h2⟩, h3⟩ := hc.row k hk
      exact ⟨⟨cs, (Below.heap_setCell _ _ _ _ (hfar.2 k hk)).trans h1, h2⟩, h3⟩, hc.apart⟩, ((Keeps.of_below (S := fun k => k = p) (w := w2) (a := w) hB2).setCell (p := ⟨p, 0, none⟩) (Or.inl rfl) _).below (Nat.le_refl _) (fun k hk => by omega)⟩

set_option maxRecDepth 100000 in
set_option maxHeartbeats 4000000 in
theorem xnew_any (ao : Option Addr) (bs : List ISl) (n cap m : Nat) (w : World) (hn : bs.length = n) (h : IntsList w ao bs) (hm2 : (bs.getD 0 default).zs.length = m) :
    Calls Tryz.prog 7 #[.slice ao n cap] w (NewP 57 w n m bs) := by
  have HN := Lib.hid hn
  have HB := Lib.hid h
  by_cases h2 : (n : Int) < 2
  · have HF := Lib.hid (show mayF bs = false by simp [mayF, hn]; omega)
    clear h hn hm2
    go_enter Tryz.func7, Tryz.ntmps7
    go_wp2
    go_ret2
    exact Or.inr ⟨HF.out, rfl, Below.refl _ _⟩
  by_cases h16 : (16 : Int) < (n : Int)
  · have HF := Lib.hid (show mayF bs = false by simp [mayF, hn]; omega)
    clear h hn hm2
    go_enter Tryz.func7, Tryz.ntmps7
    go_wp2
    go_ret2
    exact Or.inr ⟨HF.out, rfl, Below.refl _ _⟩
  have h0b : 0 < bs.length := by omega
  obtain ⟨b, off, rfl, hc0⟩ := il_cell h 0 h0b
  have hbl := World.block_lt_of_cell? w _ hc0
  have hcw : ∀ w', Below w.heap.size w w' → w'.cell? ⟨b, off + 0, none⟩ = some (.slice bs[0].ao bs[0].zs.length bs[0].cap) := fun w' hb => (hb.cell (p := ⟨b, off + 0, none⟩) hbl).trans hc0
  rw [Nat.add_zero] at hcw
  have hx0 : bs.getD 0 default = bs[0] := by simp [List.getD, h0b]
  rw [hx0] at hm2
  have HFX : Hid (mayF bs = (decide (1 ≤ m ∧ m ≤ 4) && !badB bs m && colsB bs m)) := Lib.hid (by
    unfold mayF; rw [hx0, hn, hm2]
    have : (2 ≤ n ∧ n ≤ 16) := by omega
    simp [this])
  rw [hm2] at hcw
  generalize hbx : bs[0] = x0 at *
  have HX0 := Lib.hid hbx
  have HM2 := Lib.hid hm2
  have a1 := hcw w (Below.refl _ _)
  have HCW := Lib.hid hcw
  have i0 : (0 : Int) < (n : Int) := by omega
  clear hcw hc0 hx0 hbx h hm2
  by_cases h1 : (m : Int) < 1
  · have HF := Lib.hid (show mayF bs = false by rw [HFX.out]; simp; omega)
    clear hn
    go_enter Tryz.func7, Tryz.ntmps7
    go_wp2
    go_ret2
    exact Or.inr ⟨HF.out, rfl, Below.refl _ _⟩
  by_cases h4 : (4 : Int) < (m : Int)
  · have HF := Lib.hid (show mayF bs = false by rw [HFX.out]; simp; omega)
    clear hn
    go_enter Tryz.func7, Tryz.ntmps7
    go_wp2
    go_ret2
    exact Or.inr ⟨HF.out, rfl, Below.refl _ _⟩
  have HFY : Hid (mayF bs = (!badB bs m && colsB bs m)) := Lib.hid (by
    rw [HFX.out]
    have : (1 ≤ m ∧ m ≤ 4) := by omega
    simp [this])
  clear hn HFX
  obtain ⟨w1, hw1⟩ : ∃ w1, w1 = w.alloc (.cells #[.slice none 0 0] 57) := ⟨_, rfl⟩
  have H0 : Hid (Making 57 w w1 w.heap.size m bs (.slice none 0 0) []) := Lib.hid (by
    subst hw1
    exact ⟨heap_alloc_new w _, cinv_nil _ _ _ _ (by simp), (Below.refl _ _).alloc (Nat.le_refl _) _⟩)
  have HW1 := Lib.hid hw1
  clear hw1
  obtain ⟨i0', hi, hz0, hz1, hz2⟩ := info_parts Try_infoInts
  go_enter Tryz.func7, Tryz.ntmps7
  go_wp2_with fail
  rw [← HW1.out]
  go_loopw [5] (fun i wr => ∃ gs v, gs.length ≤ n ∧ i = .int .i64 (gs.length : Nat) ∧ Making 57 w wr w.heap.size m bs v gs ∧ badB (bs.take gs.length) m = false) (fun i _ => n + 1 - (intOf i + 1).toNat)
  case atStart => exact ⟨[], _, Nat.zero_le _, rfl, H0.out, rfl⟩
  case round =>
    obtain ⟨gs, v, hk, rfl, hMk, hbad⟩ := hrel
    have HMK := Lib.hid hMk
    have HBAD := Lib.hid hbad
    have HW := Lib.hid hMk.base
    clear hbad
    by_cases hlt : gs.length < n
    · have hkb : gs.length < bs.length := by rw [HN.out]; exact hlt
      obtain ⟨b', off', he, hcell⟩ := il_cell (HB.out.below HW.out) gs.length hkb
      simp only [Option.some.injEq, Addr.mk.injEq, and_true] at he
      obtain ⟨rfl, rfl⟩ := he
      have c00 := HCW.out wr HW.out
      have HSRC := Lib.hid (fun w' (hb : Below wr.heap.size wr w') => (il_ok (HB.out.below (HW.out.trans (hb.mono HW.out.size))) gs.length hkb).1)
      have HZ := Lib.hid (show bs[gs.length].zs = (bs.getD gs.length default).zs by simp [List.getD, hkb])
      have HT := Lib.hid (badB_take bs m gs.length hkb HBAD.out)
      have HA := Lib.hid (badB_at bs m gs.length hkb)
      generalize hKK : gs.length = K at *
      have HKK := Lib.hid hKK
      generalize hQ : bs[K] = x at *
      have HQ := Lib.hid hQ
      clear hMk hKK hQ
      have j0 : (0 : Int) ≤ (K : Int) := by omega
      have j1 : (K : Int) < (n : Int) := by omega
      by_cases hx : x.zs.length = m
      · have hq : ((x.zs.length : Int) != (m : Int)) = false := by simp [hx]
        have HQF := Lib.hid (HT.out hq)
        rw [hx] at hcell
        have HX := Lib.hid hx
        have HMQ := Lib.hid (fun k => HMK.out.below (w' := wr.drewN k) (Keeps.below ((Keeps.refl (fun _ => False) wr).drewN k) (Nat.le_refl _) (fun _ f => f.elim)))
        have HSQ := Lib.hid (fun k => HSRC.out (wr.drewN k) (Keeps.below ((Keeps.refl (fun _ => False) wr).drewN k) (Nat.le_refl _) (fun _ f => f.elim)))
        clear hx hq
        go_wp2_with fail
        go_quiet (fail)
        go_wp2_with fail
        have HMR := Lib.hid (HMQ.out nq)
        have HSR := Lib.hid (HSQ.out nq)
        have hcell' : (wr.drewN nq).cell? ⟨b, off + K, none⟩ = some (.slice x.ao m x.cap) := hcell
        generalize wr.drewN nq = wq at *
        clear hcell HMK HMQ HSQ c00
        have HSD : Hid (IntsAt .i64 wq.drew x.ao x.zs) := Lib.hid (ints_below HSR.out ((Keeps.refl (fun _ => False) wq).drew.below (Nat.le_refl _) (fun _ f => f.elim)))
        have HMD := Lib.hid (HMR.out.below (w' := wq.drew) ((Keeps.refl (fun _ => False) wq).drew.below (Nat.le_refl _) (fun _ f => f.elim)))
        have HNE := Lib.hid (cinv_ne HMD.out.inv HMD.out.box (by decide) (by decide)).1
        have HOD := Lib.hid (HKK.out ▸ HMD.out.inv.own)
        have q0 := blk_cell HMR.out.box 0
        have q0f := blk_frozen HMR.out.box 0
        have hpl := blk_lt HMR.out.box
        simp only [List.getElem?_toArray, List.getElem?_cons_zero] at q0
        go_wp2_with fail
        go_region_law (first | (go_simp; go_at_call 27; refine (copyInts x.ao x.zs m x.cap _ HX.out HSD.out (by omega) (by omega)).mono ?_; rintro en w2 ⟨g, c, rfl, hr⟩; have HR := Lib.hid hr; have hownA := Lib.hid (ownsRow_same HOD.out (fun g hg => hr.2.2.2.2.block g (HOD.out.lt g hg).2)); have k1 : w2.cell? ⟨w.heap.size, 0, none⟩ = some v := (hr.2.2.2.2.cell (p := ⟨w.heap.size, 0, none⟩) (by simpa using hpl)).trans q0; have k1f : w2.frozen? ⟨w.heap.size, 0, none⟩ = false := (hr.2.2.2.2.frozen (p := ⟨w.heap.size, 0, none⟩) (by simpa using hpl)).trans q0f; have h1l : w.heap.size < w2.heap.size := Nat.lt_of_lt_of_le hpl (by have := hr.2.2.2.2.size; simpa using this); clear hr) | (refine step_append_any (by rfl) _ _ 22 (by rfl) 54 i0' _ 1 24 Tryz.underlying22 hi hz0 hz1 hz2 rfl (by decide) v K (gs.map (rowV m)) (by rfl) (hownA.out.alloc _) (some ⟨w2.heap.size, 0, none⟩) 1 1 [rowV m (g, c)] (by rfl) (by simp) (fun e => by cases e) (fun ad had => by cases had; exact World.news_of_block (heap_alloc_new _ _)) (by simp [Value.oneCell', rowV]) (by unfold maxLen; omega) (by omega) ?_; intro ao2 cap2 w3 hown2 hgrow hat hnn; have k2 : w3.cell? ⟨w.heap.size, 0, none⟩ = some v := ((hgrow.cell_far _ (by simp; omega) (Ne.symm HNE.out)).trans ((World.cell?_alloc_past _ _ _ h1l).trans k1)); have k2f : w3.frozen? ⟨w.heap.size, 0, none⟩ = false := ((hgrow.frozen_far _ (by simp; omega) (Ne.symm HNE.out)).trans ((World.frozen?_alloc_past _ _ _ h1l).trans k1f))))
        all_goals
          have HST := Lib.hid (making_step (by decide) (by decide) HMD.out (Nat.le_refl _) (by rw [HKK.out]; exact hkb) (by rw [HKK.out]; exact HZ.out) HX.out HR.out ((Keeps.refl _ _).alloc _) (by rw [HKK.out]; exact hown2) hgrow (fun g hg => by simpa using hat g hg))
          clear hown2 hgrow hat hnn
          go_wp2
          go_roundw
          case rel => exact ⟨gs ++ [(g, c)], _, by simp [HKK.out]; omega, by simp [HKK.out], HST.out, by simp only [List.length_append, List.length_cons, List.length_nil, HKK.out]; exact HQF.out⟩
          case measure => simp [intOf]; omega
      · have hq : ((x.zs.length : Int) != (m : Int)) = true := by simp; omega
        have HF : Hid (mayF bs = false) := Lib.hid (by rw [HFY.out, HA.out hq]; rfl)
        have HBD := Lib.hid (fun k => HW.out.trans (Keeps.below ((Keeps.refl (fun _ => False) wr).drewN k) (B := w.heap.size) HW.out.size (fun _ f => f.elim)))
        clear hx
        go_wp2_with fail
        go_quiet (fail)
        go_wp2
        go_ret2
        exact Or.inr ⟨HF.out, rfl, HBD.out _⟩
    · have hkn : gs.length = n := by omega
      have HLEN := Lib.hid hkn
      have HBADN : Hid (badB bs m = false) := Lib.hid (by have h := HBAD.out; rw [hkn, List.take_of_length_le (by rw [HN.out]; exact Nat.le_refl _)] at h; exact h)
      have HL := Lib.hid (badB_len HBADN.out)
      have HFZ : Hid (mayF bs = colsB bs m) := Lib.hid (by rw [HFY.out, HBADN.out]; rfl)
      rw [hkn]
      clear hlt hk hkn hMk HFY
      go_wp2_with fail
      obtain ⟨wB, rfl⟩ : ∃ wB : World, wB = wr := ⟨_, rfl⟩
      go_loopw [6] (fun i wr => ∃ k : Nat, k ≤ m ∧ i = .int .i64 k ∧ ColsTo bs k ∧ Below wB.heap.size wB wr) (fun i _ => m + 1 - (intOf i + 1).toNat)
      case atStart => exact ⟨0, Nat.zero_le _, rfl, fun j hj => by omega, Below.refl _ _⟩
      case round =>
        obtain ⟨k, hk, rfl, hcols, hbel⟩ := hrel
        have HCOLS := Lib.hid hcols
        have HWB := Lib.hid hbel
        have c00 := HCW.out wr (HW.out.trans (hbel.mono HW.out.size))
        clear hcols hbel
        by_cases hlt : k < m
        · obtain ⟨wo, rfl⟩ : ∃ wo : World, wo = wr := ⟨_, rfl⟩
          go_wp2_with fail
          go_loopw [7, 8] (fun v i wr => ∃ q : Nat, q ≤ n ∧ i = .int .i64 q ∧ RowAtI wB v ((colOf bs k).take q) wr) (fun _ i _ => n + 1 - (intOf i + 1).toNat)
          case atStart => exact ⟨0, Nat.zero_le _, rfl, rowI_nil _ _ HWB.out⟩
          case round =>
            obtain ⟨q, hq, rfl, hrow⟩ := hrel
            have HROW := Lib.hid hrow
            have HO := Lib.hid hrow.1
            have HBW := Lib.hid (HW.out.trans (hrow.2.1.mono HW.out.size))
            have HLENQ : Hid (((colOf bs k).take q).length = q) := Lib.hid (by simp [colOf, HN.out]; omega)
            clear hrow
            by_cases hql : q < n
            · have hqb : q < bs.length := by rw [HN.out]; exact hql
              obtain ⟨b', off', he, hcell⟩ := il_cell (HB.out.below HBW.out) q hqb
              simp only [Option.some.injEq, Addr.mk.injEq, and_true] at he
              obtain ⟨rfl, rfl⟩ := he
              have hin := (il_ok (HB.out.below HBW.out) q hqb).1
              have hxl := HL.out q hqb
              have HCT := Lib.hid (colOf_take bs k q hqb)
              rw [hxl] at hcell
              generalize bs[q] = x at *
              obtain ⟨xb, xoff, hxa, hxc⟩ : ∃ xb xoff, x.ao = some ⟨xb, xoff, none⟩ ∧ wr.cell? ⟨xb, xoff + k, none⟩ = some (.int .i64 (x.zs.getD k 0)) := by
                rcases hin with h | ⟨xb, xoff, h1, h2⟩
                · rw [h] at hxl; simp at hxl; omega
                · exact ⟨xb, xoff, h1, h2 k (by omega)⟩
              rw [hxa] at hcell
              generalize x.zs.getD k 0 = z at *
              clear hin hxl hxa
              have HLE := Lib.hid HLENQ.out
              generalize (colOf bs k).take q = zs at *
              obtain ⟨i1', gi, gz0, gz1, gz2⟩ := info_parts Try_infoI64
              go_wp2_with (at_builtin; refine wpList_append_any rfl _ _ 54 rfl 3 i1' (.int .i64 0) 1 8 Tryz.underlying54 gi gz0 gz1 gz2 rfl (by decide) u7 zs.length (zs.map (Value.int .i64)) rfl (HO.out.alloc _) (some ⟨wr.heap.size, 0, none⟩) 1 1 [.int .i64 z] rfl rfl ?c2 ?c3 ?c4 ?c5 ?c6 ?_)
              case c2 => intro e; cases e
              case c3 => intro ad had; cases had; exact World.news_of_block (heap_alloc_new _ _)
              case c4 => simp [Value.oneCell']
              case c5 => have := HLE.out; unfold maxLen; omega
              case c6 => have := HLE.out; omega
              intro ao' cap' w3 hown hgrow hat hnn
              have HR := Lib.hid (rowI_step (z := z) HROW.out ((Below.refl _ _).alloc HROW.out.2.1.size _) hown hgrow (fun g hg => by simpa using hat g hg))
              clear hown hgrow hat hnn
              go_wp2
              go_roundw
              case rel => exact ⟨q + 1, by omega, by go_num, by rw [HCT.out]; exact HR.out⟩
              case measure => simp [intOf]; omega
            · obtain rfl : q = n := by omega
              have HTK : Hid ((colOf bs k).take q = colOf bs k) := Lib.hid (List.take_of_length_le (by simp [colOf, HN.out]))
              rw [HTK.out] at HROW HLENQ
              obtain ⟨ao', cap', rfl, hints⟩ := rowI_done HROW.out HLENQ.out
              have HS := Lib.hid (by have := rsum_any ao' (colOf bs k) cap' wr hints (by rw [HLENQ.out]; omega); rw [HLENQ.out] at this; exact this)
              have HBX := Lib.hid HROW.out.2.1
              clear hql hints HROW HO HTK
              by_cases hs : sumE (colOf bs k) = 0
              · have HSE := Lib.hid hs
                clear hs
                go_wp2_with (go_at_call 28; refine HS.out.mono ?_; rintro e w' ⟨rfl, rfl⟩; rw [HSE.out])
                go_roundw
                case rel => exact ⟨k + 1, by omega, by go_num, fun j hj => by
                  by_cases e : j = k
                  · rw [e]; exact HSE.out
                  · exact HCOLS.out j (by omega), HBX.out⟩
                case measure => simp [intOf]; omega
              · have HSE : Hid (sumE (colOf bs k) = 1) := Lib.hid (by rcases sumF_bad (colOf bs k) with h | h; exact absurd h hs; exact h.1)
                have HF : Hid (mayF bs = false) := Lib.hid (by
                  rw [HFZ.out, ← Bool.not_eq_true]
                  intro h
                  have := List.all_eq_true.1 h k (List.mem_range.2 hlt)
                  rw [HSE.out] at this; simp at this)
                clear hs
                go_wp2_with (go_at_call 28; refine HS.out.mono ?_; rintro e w' ⟨rfl, rfl⟩; rw [HSE.out])
                go_ret2
                exact Or.inr ⟨HF.out, rfl, HBW.out⟩
        · obtain rfl : k = m := by omega
          have HF : Hid (mayF bs = true) := Lib.hid (by
            rw [HFZ.out]
            unfold colsB
            rw [List.all_eq_true]
            intro j hj
            rw [HCOLS.out j (List.mem_range.1 hj)]; rfl)
          have HBW := Lib.hid (HW.out.trans (HWB.out.mono HW.out.size))
          obtain ⟨L, lcap, rfl, hdone⟩ := cinv_done HMK.out.inv HLEN.out (by omega)
          have HD := Lib.hid (hdone 57 wr w.heap.size (by decide) (by decide) (Nat.le_refl _) (Nat.lt_of_lt_of_le (blk_lt HMK.out.box) HWB.out.size) ((HWB.out.block _ (blk_lt HMK.out.box)).trans HMK.out.box) (fun k h1 h2 h3 => HWB.out.block k h2) HWB.out.size (fun k h1 h2 => by subst h2; exact ⟨_, HMK.out.box⟩))
          clear hlt hdone
          go_wp2
          go_ret2
          exact Or.inl ⟨HF.out, w.heap.size, rfl, HD.out, HBW.out⟩

end Go.Proofs.YtbhoakohpfdeoaaGreat
