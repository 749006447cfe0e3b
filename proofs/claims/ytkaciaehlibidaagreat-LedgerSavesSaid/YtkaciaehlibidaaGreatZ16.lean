/- Parts of the proof: Pur6 Le2 Le4. -/
import Derived.Test.YtkaciaehlibidaaGreatZ09
import Derived.Test.YtkaciaehlibidaaGreatZ11
import Derived.Test.YtkaciaehlibidaaGreatZ12
import Derived.Test.YtkaciaehlibidaaGreatZ14
import Derived.Test.YtkaciaehlibidaaGreatZ15
namespace Go.Proofs.YtkaciaehlibidaaGreat
open Go.RowKit
set_option linter.unusedVariables false
set_option linter.unusedSimpArgs false
set_option maxHeartbeats 1000000 in
theorem copyInts (ao : Option Addr) (zs : List Int) (n cap : Nat) (w : World) (hn : zs.length = n) (h : IntsAt .i64 w ao zs) (h0 : 0 < n) (hm : n ≤ 1000) :
 Calls Tryz.prog 79 #[.slice ao n cap] w fun e w' => ∃ g cap', e = .returned (.slice (some ⟨g, 0, none⟩) n cap') ∧ RowNew w zs w' g cap' := by
 have HN := Lib.hid hn
 have H := Lib.hid h
 obtain ⟨i0, hi, hz0, hz1, hz2⟩ := info_parts Try_infoI64
 clear hn h
 go_enter Tryz.func79, Tryz.ntmps79
 go_wp2_with (at_builtin; refine wpList_append_any rfl _ _ 60 rfl 3 i0 (.int .i64 0) 1 8 Tryz.underlying60 hi hz0 hz1 hz2 rfl (by decide) (.slice (some ⟨w.heap.size, 0, none⟩) 0 0) 0 [] rfl (World.ownsRow_made w #[] 0 (Nat.zero_le _) (Nat.zero_le _) rfl) ao n cap (zs.map (Value.int .i64)) rfl ?c1 ?c2 ?c3 (ints_one _ _) ?c5 ?c6 ?_)
 case c1 => simp; exact HN.out
 case c2 => intro e; have h := H.out; rw [e] at h; have := ints_none h; have := HN.out; omega
 case c3 => exact src_ints (ints_below H.out ((Below.refl _ _).alloc (Nat.le_refl _) _))
 case c5 => unfold maxLen; omega
 case c6 => omega
 intro ao' cap' w1 hown hgrow hat hnn
 have HR := Lib.hid (rowNew_of (w := w) (cap := cap') HN.out h0 (ao := ao') (by simpa using hown) (((Below.refl _ _).alloc (Nat.le_refl _) _).grown hgrow (by simp) (fun k hk => by simp only [Value.ownBlock, Option.some.injEq] at hk; omega)) (fun g hg => by
  rcases hat g (by simpa using hg) with e | e
  · simp only [Value.ownBlock, Option.some.injEq] at e; omega
  · rw [e]; simp))
 clear hown hgrow hat hnn
 go_wp2
 go_ret
 obtain ⟨g, rfl, hr⟩ := HR.out
 exact ⟨g, cap', ret_val (a := .slice (some ⟨g, 0, none⟩) n cap') rfl, hr⟩
def NewP (T : TypeId) (w : World) (n m : Nat) (bs : List ISl) (e : Ending) (w' : World) : Prop :=
 (mayF bs = true ∧ ∃ q, e = .returned (.tuple #[.pointer (some ⟨q, 0, none⟩), .int .i64 0]) ∧ PNew T w n m (balOf bs) q w') ∨ (mayF bs = false ∧ e = .returned (.tuple #[.pointer none, .int .i64 1]) ∧ Below w.heap.size w w')
structure Making (T : TypeId) (w wr : World) (p m : Nat) (bs : List ISl) (v : Value) (gs : List (Nat × Nat)) : Prop where
 box : wr.heap[p]? = some (.cells #[v] T (0, 0))
 inv : CInv w wr bs m v gs
 base : Below w.heap.size w wr
theorem cinv_ne {T : TypeId} {w wr : World} {p m : Nat} {bs : List ISl} {v : Value} {gs : List (Nat × Nat)} {cs : Array Value} (h : CInv w wr bs m v gs) (hbox : wr.heap[p]? = some (.cells cs T (0, 0))) (hT1 : T ≠ 3) (hT2 : T ≠ 60) : v.ownBlock ≠ some p ∧ ∀ k (hk : k < gs.length), gs[k].1 ≠ p := by
 refine ⟨fun he => ?_, fun k hk e => ?_⟩
 · rcases h.own.2 with ⟨rfl, _⟩ | ⟨g, cap, cur, rfl, _, hh, _⟩
   · cases he
   · simp only [Value.ownBlock, Option.some.injEq] at he
     subst he
     rw [hh] at hbox
     simp only [Option.some.injEq, Obj.cells.injEq, and_true] at hbox
     exact hT2 hbox.2.symm
 · obtain ⟨⟨cs, h1, _⟩, _⟩ := h.row k hk
   rw [e, hbox] at h1
   simp only [Option.some.injEq, Obj.cells.injEq, and_true] at h1
   exact hT1 h1.2
theorem Making.below {T : TypeId} {w wr w' : World} {p m : Nat} {bs : List ISl} {v : Value} {gs : List (Nat × Nat)} (h : Making T w wr p m bs v gs) (hb : Below wr.heap.size wr w') : Making T w w' p m bs v gs :=
 ⟨(hb.block p (blk_lt h.box)).trans h.box, h.inv.keep (S := fun _ => False) (Keeps.of_below hb) (fun _ f => f.elim), h.base.trans (hb.mono h.inv.size)⟩
theorem making_step {T : TypeId} {w wr w1 wa w2 : World} {p m : Nat} {bs : List ISl} {v v' : Value} {gs : List (Nat × Nat)} {g c : Nat} {zs : List Int} (hT1 : T ≠ 3) (hT2 : T ≠ 60) (h : Making T w wr p m bs v gs) (hp : w.heap.size ≤ p) (hl : gs.length < bs.length) (hz : zs = (bs.getD gs.length default).zs) (hzm : zs.length = m)
 (hr : RowNew wr zs w1 g c) (ha : Keeps (fun _ => False) w1 wa)
 (hown : w2.ownsRow 0 60 1 v' (gs.length + 1) (gs.map (rowV m) ++ [rowV m (g, c)])) (hgrow : wa.grownBy w2 v.ownBlock) (hat : ∀ g, v'.ownBlock = some g → v.ownBlock = some g ∨ g = wa.heap.size) :
 Making T w (w2.setCell ⟨p, 0, none⟩ v') p m bs v' (gs ++ [(g, c)]) := by
 have hc := cinv_step h.inv hl hz hzm hr ha hown hgrow hat
 have hpl := blk_lt h.box
 have hs := h.inv.size
 have hb1 := hr.2.2.2.2
 have hs1 := hb1.size
 have hs2 := ha.size
 have hne := cinv_ne h.inv h.box hT1 hT2
 have hbox2 : w2.heap[p]? = some (.cells #[v] T (0, 0)) := (hgrow.block p (by omega) (fun e => hne.1 e.symm)).trans ((ha.block p (by omega) (fun f => f)).trans ((hb1.block p hpl).trans h.box))
 have hB2 : Below w.heap.size w w2 := ((h.base.trans (hb1.mono hs)).trans (ha.below (by omega) (fun _ f => f.elim))).grown hgrow (by omega) (fun k hk => h.inv.fresh k hk)
 have hfar := cinv_ne hc hbox2 hT1 hT2
 exact ⟨by simpa using blk_set hbox2 0 v', ⟨ownsRow_same hc.own (fun k hk => Below.heap_setCell _ _ _ _ (fun e => hfar.1 (by rw [hk, e]))), by simpa [World.setCell] using hc.size, hc.fresh, fun k hk => by
  obtain ⟨⟨cs, h1, h2⟩, h3⟩ := hc.row k hk
  exact ⟨⟨cs, (Below.heap_setCell _ _ _ _ (hfar.2 k hk)).trans h1, h2⟩, h3⟩, hc.apart⟩, ((Keeps.of_below (S := fun k => k = p) (w := w2) (a := w) hB2).setCell (p := ⟨p, 0, none⟩) (Or.inl rfl) _).below (Nat.le_refl _) (fun k hk => by omega)⟩
set_option maxRecDepth 100000 in
set_option maxHeartbeats 4000000 in
theorem xnew_any (ao : Option Addr) (bs : List ISl) (n cap m : Nat) (w : World) (hn : bs.length = n) (h : IntsList w ao bs) (hm2 : (bs.getD 0 default).zs.length = m) :
 Calls Tryz.prog 51 #[.slice ao n cap] w (NewP 159 w n m bs) := by
 have HN := Lib.hid hn
 have HB := Lib.hid h
 by_cases h2 : (n : Int) < 2
 · have HF := Lib.hid (show mayF bs = false by simp [mayF, hn]; omega)
   clear h hn hm2
   go_enter Tryz.func51, Tryz.ntmps51
   go_wp2
   go_ret2
   exact Or.inr ⟨HF.out, rfl, Below.refl _ _⟩
 by_cases h16 : (16 : Int) < (n : Int)
 · have HF := Lib.hid (show mayF bs = false by simp [mayF, hn]; omega)
   clear h hn hm2
   go_enter Tryz.func51, Tryz.ntmps51
   go_wp2
   go_ret2
   exact Or.inr ⟨HF.out, rfl, Below.refl _ _⟩
 have h0b : 0 < bs.length := by omega
 obtain ⟨b, off, rfl, hc0⟩ := il_cell h 0 h0b
 have hbl := World.block_lt_of_cell? w _ hc0
 have hcw : ∀ w', Below w.heap.size w w' → w'.cell? ⟨b, off + 0, none⟩ = some (.slice bs[0].ao bs[0].zs.length bs[0].cap) := fun w' hb => (hb.cell (p := ⟨b, off + 0, none⟩) hbl).trans hc0
 rw [Nat.add_zero] at hcw
 have hx0 : bs.getD 0 default = bs[0] := by simp [List.getD, h0b]
 rw [hx0] at hm2
 have HFX : Hid (mayF bs = (decide (1 ≤ m ∧ m ≤ 4) && !badB bs m && colsB bs m)) := Lib.hid (by
  unfold mayF; rw [hx0, hn, hm2]
  have : (2 ≤ n ∧ n ≤ 16) := by omega
  simp [this])
 rw [hm2] at hcw
 generalize hbx : bs[0] = x0 at *
 have HX0 := Lib.hid hbx
 have HM2 := Lib.hid hm2
 have a1 := hcw w (Below.refl _ _)
 have HCW := Lib.hid hcw
 have i0 : (0 : Int) < (n : Int) := by omega
 clear hcw hc0 hx0 hbx h hm2
 by_cases h1 : (m : Int) < 1
 · have HF := Lib.hid (show mayF bs = false by rw [HFX.out]; simp; omega)
   clear hn
   go_enter Tryz.func51, Tryz.ntmps51
   go_wp2
   go_ret2
   exact Or.inr ⟨HF.out, rfl, Below.refl _ _⟩
 by_cases h4 : (4 : Int) < (m : Int)
 · have HF := Lib.hid (show mayF bs = false by rw [HFX.out]; simp; omega)
   clear hn
   go_enter Tryz.func51, Tryz.ntmps51
   go_wp2
   go_ret2
   exact Or.inr ⟨HF.out, rfl, Below.refl _ _⟩
 have HFY : Hid (mayF bs = (!badB bs m && colsB bs m)) := Lib.hid (by
  rw [HFX.out]
  have : (1 ≤ m ∧ m ≤ 4) := by omega
  simp [this])
 clear hn HFX
 obtain ⟨w1, hw1⟩ : ∃ w1, w1 = w.alloc (.cells #[.slice none 0 0] 159) := ⟨_, rfl⟩
 have H0 : Hid (Making 159 w w1 w.heap.size m bs (.slice none 0 0) []) := Lib.hid (by
  subst hw1
  exact ⟨heap_alloc_new w _, cinv_nil _ _ _ _ (by simp), (Below.refl _ _).alloc (Nat.le_refl _) _⟩)
 have HW1 := Lib.hid hw1
 clear hw1
 obtain ⟨i0', hi, hz0, hz1, hz2⟩ := info_parts Try_infoInts
 go_enter Tryz.func51, Tryz.ntmps51
 go_wp2_with fail
 rw [← HW1.out]
 go_loopw [5] (fun i wr => ∃ gs v, gs.length ≤ n ∧ i = .int .i64 (gs.length : Nat) ∧ Making 159 w wr w.heap.size m bs v gs ∧ badB (bs.take gs.length) m = false) (fun i _ => n + 1 - (intOf i + 1).toNat)
 case atStart => exact ⟨[], _, Nat.zero_le _, rfl, H0.out, rfl⟩
 case round =>
  obtain ⟨gs, v, hk, rfl, hMk, hbad⟩ := hrel
  have HMK := Lib.hid hMk
  have HBAD := Lib.hid hbad
  have HW := Lib.hid hMk.base
  clear hbad
  by_cases hlt : gs.length < n
  · have hkb : gs.length < bs.length := by rw [HN.out]; exact hlt
    obtain ⟨b', off', he, hcell⟩ := il_cell (HB.out.below HW.out) gs.length hkb
    simp only [Option.some.injEq, Addr.mk.injEq, and_true] at he
    obtain ⟨rfl, rfl⟩ := he
    have c00 := HCW.out wr HW.out
    have HSRC := Lib.hid (fun w' (hb : Below wr.heap.size wr w') => (il_ok (HB.out.below (HW.out.trans (hb.mono HW.out.size))) gs.length hkb).1)
    have HZ := Lib.hid (show bs[gs.length].zs = (bs.getD gs.length default).zs by simp [List.getD, hkb])
    have HT := Lib.hid (badB_take bs m gs.length hkb HBAD.out)
    have HA := Lib.hid (badB_at bs m gs.length hkb)
    generalize hKK : gs.length = K at *
    have HKK := Lib.hid hKK
    generalize hQ : bs[K] = x at *
    have HQ := Lib.hid hQ
    clear hMk hKK hQ
    have j0 : (0 : Int) ≤ (K : Int) := by omega
    have j1 : (K : Int) < (n : Int) := by omega
    by_cases hx : x.zs.length = m
    · have hq : ((x.zs.length : Int) != (m : Int)) = false := by simp [hx]
      have HQF := Lib.hid (HT.out hq)
      rw [hx] at hcell
      have HX := Lib.hid hx
      have HMQ := Lib.hid (fun k => HMK.out.below (w' := wr.drewN k) (Keeps.below ((Keeps.refl (fun _ => False) wr).drewN k) (Nat.le_refl _) (fun _ f => f.elim)))
      have HSQ := Lib.hid (fun k => HSRC.out (wr.drewN k) (Keeps.below ((Keeps.refl (fun _ => False) wr).drewN k) (Nat.le_refl _) (fun _ f => f.elim)))
      clear hx hq
      go_wp2_with fail
      go_quiet (fail)
      go_wp2_with fail
      have HMR := Lib.hid (HMQ.out nq)
      have HSR := Lib.hid (HSQ.out nq)
      have hcell' : (wr.drewN nq).cell? ⟨b, off + K, none⟩ = some (.slice x.ao m x.cap) := hcell
      generalize wr.drewN nq = wq at *
      clear hcell HMK HMQ HSQ c00
      have HSD : Hid (IntsAt .i64 wq.drew x.ao x.zs) := Lib.hid (ints_below HSR.out ((Keeps.refl (fun _ => False) wq).drew.below (Nat.le_refl _) (fun _ f => f.elim)))
      have HMD := Lib.hid (HMR.out.below (w' := wq.drew) ((Keeps.refl (fun _ => False) wq).drew.below (Nat.le_refl _) (fun _ f => f.elim)))
      have HNE := Lib.hid (cinv_ne HMD.out.inv HMD.out.box (by decide) (by decide)).1
      have HOD := Lib.hid (HKK.out ▸ HMD.out.inv.own)
      have q0 := blk_cell HMR.out.box 0
      have q0f := blk_frozen HMR.out.box 0
      have hpl := blk_lt HMR.out.box
      simp only [List.getElem?_toArray, List.getElem?_cons_zero] at q0
      go_wp2_with fail
      go_region_law (first | (go_simp; go_at_call 79; refine (copyInts x.ao x.zs m x.cap _ HX.out HSD.out (by omega) (by omega)).mono ?_; rintro en w2 ⟨g, c, rfl, hr⟩; have HR := Lib.hid hr; have hownA := Lib.hid (ownsRow_same HOD.out (fun g hg => hr.2.2.2.2.block g (HOD.out.lt g hg).2)); have k1 : w2.cell? ⟨w.heap.size, 0, none⟩ = some v := (hr.2.2.2.2.cell (p := ⟨w.heap.size, 0, none⟩) (by simpa using hpl)).trans q0; have k1f : w2.frozen? ⟨w.heap.size, 0, none⟩ = false := (hr.2.2.2.2.frozen (p := ⟨w.heap.size, 0, none⟩) (by simpa using hpl)).trans q0f; have h1l : w.heap.size < w2.heap.size := Nat.lt_of_lt_of_le hpl (by have := hr.2.2.2.2.size; simpa using this); clear hr) | (refine step_append_any (by rfl) _ _ 22 (by rfl) 60 i0' _ 1 24 Tryz.underlying22 hi hz0 hz1 hz2 rfl (by decide) v K (gs.map (rowV m)) (by rfl) (hownA.out.alloc _) (some ⟨w2.heap.size, 0, none⟩) 1 1 [rowV m (g, c)] (by rfl) (by simp) (fun e => by cases e) (fun ad had => by cases had; exact World.news_of_block (heap_alloc_new _ _)) (by simp [Value.oneCell', rowV]) (by unfold maxLen; omega) (by omega) ?_; intro ao2 cap2 w3 hown2 hgrow hat hnn; have k2 : w3.cell? ⟨w.heap.size, 0, none⟩ = some v := ((hgrow.cell_far _ (by simp; omega) (Ne.symm HNE.out)).trans ((World.cell?_alloc_past _ _ _ h1l).trans k1)); have k2f : w3.frozen? ⟨w.heap.size, 0, none⟩ = false := ((hgrow.frozen_far _ (by simp; omega) (Ne.symm HNE.out)).trans ((World.frozen?_alloc_past _ _ _ h1l).trans k1f))))
      all_goals
       have HST := Lib.hid (making_step (by decide) (by decide) HMD.out (Nat.le_refl _) (by rw [HKK.out]; exact hkb) (by rw [HKK.out]; exact HZ.out) HX.out HR.out ((Keeps.refl _ _).alloc _) (by rw [HKK.out]; exact hown2) hgrow (fun g hg => by simpa using hat g hg))
       clear hown2 hgrow hat hnn
       go_wp2
       go_roundw
       case rel => exact ⟨gs ++ [(g, c)], _, by simp [HKK.out]; omega, by simp [HKK.out], HST.out, by simp only [List.length_append, List.length_cons, List.length_nil, HKK.out]; exact HQF.out⟩
       case measure => simp [intOf]; omega
    · have hq : ((x.zs.length : Int) != (m : Int)) = true := by simp; omega
      have HF : Hid (mayF bs = false) := Lib.hid (by rw [HFY.out, HA.out hq]; rfl)
      have HBD := Lib.hid (fun k => HW.out.trans (Keeps.below ((Keeps.refl (fun _ => False) wr).drewN k) (B := w.heap.size) HW.out.size (fun _ f => f.elim)))
      clear hx
      go_wp2_with fail
      go_quiet (fail)
      go_wp2
      go_ret2
      exact Or.inr ⟨HF.out, rfl, HBD.out _⟩
  · have hkn : gs.length = n := by omega
    have HLEN := Lib.hid hkn
    have HBADN : Hid (badB bs m = false) := Lib.hid (by have h := HBAD.out; rw [hkn, List.take_of_length_le (by rw [HN.out]; exact Nat.le_refl _)] at h; exact h)
    have HL := Lib.hid (badB_len HBADN.out)
    have HFZ : Hid (mayF bs = colsB bs m) := Lib.hid (by rw [HFY.out, HBADN.out]; rfl)
    rw [hkn]
    clear hlt hk hkn hMk HFY
    go_wp2_with fail
    obtain ⟨wB, rfl⟩ : ∃ wB : World, wB = wr := ⟨_, rfl⟩
    go_loopw [6] (fun i wr => ∃ k : Nat, k ≤ m ∧ i = .int .i64 k ∧ ColsTo bs k ∧ Below wB.heap.size wB wr) (fun i _ => m + 1 - (intOf i + 1).toNat)
    case atStart => exact ⟨0, Nat.zero_le _, rfl, fun j hj => by omega, Below.refl _ _⟩
    case round =>
     obtain ⟨k, hk, rfl, hcols, hbel⟩ := hrel
     have HCOLS := Lib.hid hcols
     have HWB := Lib.hid hbel
     have c00 := HCW.out wr (HW.out.trans (hbel.mono HW.out.size))
     clear hcols hbel
     by_cases hlt : k < m
     · obtain ⟨wo, rfl⟩ : ∃ wo : World, wo = wr := ⟨_, rfl⟩
       go_wp2_with fail
       go_loopw [7, 8] (fun v i wr => ∃ q : Nat, q ≤ n ∧ i = .int .i64 q ∧ RowAtI wB v ((colOf bs k).take q) wr) (fun _ i _ => n + 1 - (intOf i + 1).toNat)
       case atStart => exact ⟨0, Nat.zero_le _, rfl, rowI_nil _ _ HWB.out⟩
       case round =>
        obtain ⟨q, hq, rfl, hrow⟩ := hrel
        have HROW := Lib.hid hrow
        have HO := Lib.hid hrow.1
        have HBW := Lib.hid (HW.out.trans (hrow.2.1.mono HW.out.size))
        have HLENQ : Hid (((colOf bs k).take q).length = q) := Lib.hid (by simp [colOf, HN.out]; omega)
        clear hrow
        by_cases hql : q < n
        · have hqb : q < bs.length := by rw [HN.out]; exact hql
          obtain ⟨b', off', he, hcell⟩ := il_cell (HB.out.below HBW.out) q hqb
          simp only [Option.some.injEq, Addr.mk.injEq, and_true] at he
          obtain ⟨rfl, rfl⟩ := he
          have hin := (il_ok (HB.out.below HBW.out) q hqb).1
          have hxl := HL.out q hqb
          have HCT := Lib.hid (colOf_take bs k q hqb)
          rw [hxl] at hcell
          generalize bs[q] = x at *
          obtain ⟨xb, xoff, hxa, hxc⟩ : ∃ xb xoff, x.ao = some ⟨xb, xoff, none⟩ ∧ wr.cell? ⟨xb, xoff + k, none⟩ = some (.int .i64 (x.zs.getD k 0)) := by
           rcases hin with h | ⟨xb, xoff, h1, h2⟩
           · rw [h] at hxl; simp at hxl; omega
           · exact ⟨xb, xoff, h1, h2 k (by omega)⟩
          rw [hxa] at hcell
          generalize x.zs.getD k 0 = z at *
          clear hin hxl hxa
          have HLE := Lib.hid HLENQ.out
          generalize (colOf bs k).take q = zs at *
          obtain ⟨i1', gi, gz0, gz1, gz2⟩ := info_parts Try_infoI64
          go_wp2_with (at_builtin; refine wpList_append_any rfl _ _ 60 rfl 3 i1' (.int .i64 0) 1 8 Tryz.underlying60 gi gz0 gz1 gz2 rfl (by decide) u7 zs.length (zs.map (Value.int .i64)) rfl (HO.out.alloc _) (some ⟨wr.heap.size, 0, none⟩) 1 1 [.int .i64 z] rfl rfl ?c2 ?c3 ?c4 ?c5 ?c6 ?_)
          case c2 => intro e; cases e
          case c3 => intro ad had; cases had; exact World.news_of_block (heap_alloc_new _ _)
          case c4 => simp [Value.oneCell']
          case c5 => have := HLE.out; unfold maxLen; omega
          case c6 => have := HLE.out; omega
          intro ao' cap' w3 hown hgrow hat hnn
          have HR := Lib.hid (rowI_step (z := z) HROW.out ((Below.refl _ _).alloc HROW.out.2.1.size _) hown hgrow (fun g hg => by simpa using hat g hg))
          clear hown hgrow hat hnn
          go_wp2
          go_roundw
          case rel => exact ⟨q + 1, by omega, by go_num, by rw [HCT.out]; exact HR.out⟩
          case measure => simp [intOf]; omega
        · obtain rfl : q = n := by omega
          have HTK : Hid ((colOf bs k).take q = colOf bs k) := Lib.hid (List.take_of_length_le (by simp [colOf, HN.out]))
          rw [HTK.out] at HROW HLENQ
          obtain ⟨ao', cap', rfl, hints⟩ := rowI_done HROW.out HLENQ.out
          have HS := Lib.hid (by have := rsum_any ao' (colOf bs k) cap' wr hints (by rw [HLENQ.out]; omega); rw [HLENQ.out] at this; exact this)
          have HBX := Lib.hid HROW.out.2.1
          clear hql hints HROW HO HTK
          by_cases hs : sumE (colOf bs k) = 0
          · have HSE := Lib.hid hs
            clear hs
            go_wp2_with (go_at_call 80; refine HS.out.mono ?_; rintro e w' ⟨rfl, rfl⟩; rw [HSE.out])
            go_roundw
            case rel => exact ⟨k + 1, by omega, by go_num, fun j hj => by
             by_cases e : j = k
             · rw [e]; exact HSE.out
             · exact HCOLS.out j (by omega), HBX.out⟩
            case measure => simp [intOf]; omega
          · have HSE : Hid (sumE (colOf bs k) = 1) := Lib.hid (by rcases sumF_bad (colOf bs k) with h | h; exact absurd h hs; exact h.1)
            have HF : Hid (mayF bs = false) := Lib.hid (by
             rw [HFZ.out, ← Bool.not_eq_true]
             intro h
             have := List.all_eq_true.1 h k (List.mem_range.2 hlt)
             rw [HSE.out] at this; simp at this)
            clear hs
            go_wp2_with (go_at_call 80; refine HS.out.mono ?_; rintro e w' ⟨rfl, rfl⟩; rw [HSE.out])
            go_ret2
            exact Or.inr ⟨HF.out, rfl, HBW.out⟩
     · obtain rfl : k = m := by omega
       have HF : Hid (mayF bs = true) := Lib.hid (by
        rw [HFZ.out]
        unfold colsB
        rw [List.all_eq_true]
        intro j hj
        rw [HCOLS.out j (List.mem_range.1 hj)]; rfl)
       have HBW := Lib.hid (HW.out.trans (HWB.out.mono HW.out.size))
       obtain ⟨L, lcap, rfl, hdone⟩ := cinv_done HMK.out.inv HLEN.out (by omega)
       have HD := Lib.hid (hdone 159 wr w.heap.size (by decide) (by decide) (Nat.le_refl _) (Nat.lt_of_lt_of_le (blk_lt HMK.out.box) HWB.out.size) ((HWB.out.block _ (blk_lt HMK.out.box)).trans HMK.out.box) (fun k h1 h2 h3 => HWB.out.block k h2) HWB.out.size (fun k h1 h2 => by subst h2; exact ⟨_, HMK.out.box⟩))
       clear hlt hdone
       go_wp2
       go_ret2
       exact Or.inl ⟨HF.out, w.heap.size, rfl, HD.out, HBW.out⟩
structure LDat (Sb : Nat → Prop) (W w : World) (n m : Nat) (E : Int) (s : LS) (T : Nat → Int) (A B tb q : Nat) (v : Value) : Prop where
 eb : EB Sb W w n m s.b s.l T B tb q
 box : w.heap[A]? = some (.cells #[.slice none 0 0, .int .i64 E, .pointer (some ⟨B, 0, none⟩), .int .i64 s.ck, v] 85 (0, 0))
 row : w.ownsRow 0 106 11 v s.es.length (s.es.flatMap DN.list)
 nA : ¬ Sb A
 nv : ∀ g, v.ownBlock = some g → ¬ Sb g
 oA : W.heap.size ≤ A
 ov : ∀ g, v.ownBlock = some g → W.heap.size ≤ g
def LD (S : Nat → Prop) (W w : World) (n m : Nat) (E : Int) (s : LS) (T : Nat → Int) (A B tb q : Nat) : Prop :=
 ∃ Sb v, LDat Sb W w n m E s T A B tb q v ∧ LInv n m E s T ∧ ∀ i, S i ↔ (Sb i ∨ i = A ∨ v.ownBlock = some i)
def LPost (S : Nat → Prop) (W w : World) (n m : Nat) (E : Int) (s : LS) (T : Nat → Int) (A B tb q : Nat) (w' : World) : Prop :=
 ∃ S', LD S' W w' n m E s T A B tb q ∧ Keeps S w w' ∧ ∀ i, S' i → S i ∨ w.heap.size ≤ i
section
variable {S Sb : Nat → Prop} {W w w' : World} {n m : Nat} {E : Int} {s : LS} {T : Nat → Int} {A B tb q : Nat} {v : Value} {b b' : Nat → Nat → Int} {l l' : List XR}
theorem EB.move (h : EB S W w n m b l T B tb q) (f t j x : Int) :
 Calls Tryz.prog 62 #[.pointer (some ⟨q, 0, none⟩), .int .i64 f, .int .i64 t, .int .i64 j, .int .i64 x] w fun e w' =>
  e = .returned (.int .i64 (moveE n m b f t j x)) ∧ EPost S W w n m (moveN n m b f t j x) l T B tb q w' := by
 obtain ⟨Sp, v, h1, h2, h3, h4, h5, h6, h7⟩ := h
 refine (pur_move q n m Sp b w h1.pu h4.good f t j x).mono ?_
 rintro e w' ⟨rfl, hp⟩
 exact ⟨rfl, EB.tpost h1 h2 h5 h6 h7 (h4.move f t j x) ⟨tab_keep h3 hp.2 h2, v, h1.purse hp, hp.2.mono (fun i _ hi => Or.inl (Or.inr (Or.inr hi))), fun g hg => Or.inl hg⟩⟩
theorem EB.there (h : EB S W w n m b l T B tb q) : Calls Tryz.prog 60 #[.pointer (some ⟨q, 0, none⟩)] w fun e w' => e = .returned (.int .i64 (n : Int)) ∧ w = w' := by
 obtain ⟨Sp, v, h1, _⟩ := h; exact pur_parties q n m Sp b w h1.pu
theorem LDat.vA (h : LDat Sb W w n m E s T A B tb q v) : ∀ g, v.ownBlock = some g → g ≠ A := fun g hg => by
 obtain ⟨cur, h1⟩ := row_ty h.row hg
 exact TyAt.ne ⟨_, _, h.box⟩ h1 (by decide)
theorem LDat.cells (h : LDat Sb W w n m E s T A B tb q v) : w.cell? ⟨A, 1, none⟩ = some (.int .i64 E) ∧ w.cell? ⟨A, 2, none⟩ = some (.pointer (some ⟨B, 0, none⟩)) ∧ w.cell? ⟨A, 3, none⟩ = some (.int .i64 s.ck) ∧ w.cell? ⟨A, 4, none⟩ = some v :=
 ⟨blk_cell h.box 1, blk_cell h.box 2, blk_cell h.box 3, blk_cell h.box 4⟩
theorem LDat.lt (h : LDat Sb W w n m E s T A B tb q v) : ∀ i, (Sb i ∨ i = A ∨ v.ownBlock = some i) → i < w.heap.size := by
 rintro i (hi | rfl | hi)
 · exact h.eb.lt i hi
 · exact blk_lt h.box
 · exact (h.row.lt i hi).2
theorem LDat.new (h : LDat Sb W w n m E s T A B tb q v) : ∀ i, (Sb i ∨ i = A ∨ v.ownBlock = some i) → W.heap.size ≤ i := by
 rintro i (hi | rfl | hi)
 · exact h.eb.new i hi
 · exact h.oA
 · exact h.ov i hi
theorem LDat.keep {S2 : Nat → Prop} (h : LDat Sb W w n m E s T A B tb q v) (hk : Keeps S2 w w') (hs : ∀ i, S2 i → ¬ (Sb i ∨ i = A ∨ v.ownBlock = some i)) (hn : ∀ i, S2 i → W.heap.size ≤ i) : LDat Sb W w' n m E s T A B tb q v :=
 ⟨h.eb.keep hk (fun i hi h2 => hs i hi (Or.inl h2)) hn, (hk.block A (blk_lt h.box) (fun h2 => hs A h2 (Or.inr (Or.inl rfl)))).trans h.box, ownsRow_same h.row (fun g hg => hk.block g (h.row.lt g hg).2 (fun h2 => hs g h2 (Or.inr (Or.inr hg)))), h.nA, h.nv, h.oA, h.ov⟩
theorem LDat.below (h : LDat Sb W w n m E s T A B tb q v) (hb : Below w.heap.size w w') : LDat Sb W w' n m E s T A B tb q v := h.keep (Keeps.of_below (S := fun _ => False) hb) (fun _ h => h.elim) (fun _ h => h.elim)
theorem LDat.book (h : LDat Sb W w n m E s T A B tb q v) (hp : EPost Sb W w n m b' l' T B tb q w') :
 ∃ Sb', LDat Sb' W w' n m E ⟨b', l', s.ck, s.es⟩ T A B tb q v ∧ Keeps Sb w w' ∧ ∀ i, Sb' i → Sb i ∨ w.heap.size ≤ i := by
 obtain ⟨Sb', h1, h2, h3⟩ := hp
 refine ⟨Sb', ⟨h1, (h2.block A (blk_lt h.box) h.nA).trans h.box, ownsRow_same h.row (fun g hg => h2.block g (h.row.lt g hg).2 (h.nv g hg)), fun hh => ?_, fun g hg hh => ?_, h.oA, h.ov⟩, h2, h3⟩
 · rcases h3 A hh with e | e
   · exact h.nA e
   · have := blk_lt h.box; omega
 · rcases h3 g hh with e | e
   · exact h.nv g hg e
   · have := (h.row.lt g hg).2; omega
theorem LD.dat (h : LD S W w n m E s T A B tb q) : ∃ Sb v, LDat Sb W w n m E s T A B tb q v ∧ LInv n m E s T ∧ ∀ i, S i ↔ (Sb i ∨ i = A ∨ v.ownBlock = some i) := h
theorem LD.bel (h : LD S W w n m E s T A B tb q) : Below W.heap.size W w := by obtain ⟨_, _, h, _⟩ := h; exact h.eb.bel
theorem LD.inv (h : LD S W w n m E s T A B tb q) : LInv n m E s T := by obtain ⟨_, _, _, h, _⟩ := h; exact h
theorem LD.new (h : LD S W w n m E s T A B tb q) : ∀ i, S i → W.heap.size ≤ i := by
 obtain ⟨_, _, h1, _, h3⟩ := h
 exact fun i hi => h1.new i ((h3 i).1 hi)
theorem LD.lt (h : LD S W w n m E s T A B tb q) : ∀ i, S i → i < w.heap.size := by
 obtain ⟨_, _, h1, _, h3⟩ := h
 exact fun i hi => h1.lt i ((h3 i).1 hi)
theorem LD.keep {S2 : Nat → Prop} (h : LD S W w n m E s T A B tb q) (hk : Keeps S2 w w') (hs : ∀ i, S2 i → ¬ S i) (hn : ∀ i, S2 i → W.heap.size ≤ i) : LD S W w' n m E s T A B tb q := by
 obtain ⟨Sb, v, h1, h2, h3⟩ := h
 exact ⟨Sb, v, h1.keep hk (fun i hi h => hs i hi ((h3 i).2 h)) hn, h2, h3⟩
theorem LD.below (h : LD S W w n m E s T A B tb q) (hb : Below w.heap.size w w') : LD S W w' n m E s T A B tb q := h.keep (Keeps.of_below (S := fun _ => False) hb) (fun _ h => h.elim) (fun _ h => h.elim)
theorem LPost.refl (h : LD S W w n m E s T A B tb q) (hb : Below w.heap.size w w') : LPost S W w n m E s T A B tb q w' := ⟨S, h.below hb, Keeps.of_below hb, fun i hi => Or.inl hi⟩
set_option maxHeartbeats 1000000 in
theorem ledger_clock (h : LDat Sb W w n m E s T A B tb q v) : Calls Tryz.prog 14 #[.pointer (some ⟨A, 0, none⟩)] w fun e w' => e = .returned (.int .i64 s.ck) ∧ w = w' := by
 obtain ⟨_, _, c3, _⟩ := h.cells
 clear h
 go_enter Tryz.func14, Tryz.ntmps14
 go_wp2
 go_ret
 exact ⟨rfl, rfl⟩
set_option maxRecDepth 100000 in
set_option maxHeartbeats 2000000 in
theorem ledger_room (h : LDat Sb W w n m E s T A B tb q v) (hI : LInv n m E s T) (k : Int) (k0 : 0 ≤ k) (k1 : k ≤ 2) :
 Calls Tryz.prog 61 #[.pointer (some ⟨A, 0, none⟩), .int .i64 k] w fun e w' => e = .returned (.bool (room E s k)) ∧ Below w.heap.size w w' := by
 obtain ⟨ao, c, rfl, _, _⟩ := own_shape h.row
 obtain ⟨c1, c2, _, c4⟩ := h.cells
 have HO := Lib.hid (fun w' (hb : Below w.heap.size w w') => (h.below hb).eb.opens)
 have HC := Lib.hid (fun w' (hb : Below w.heap.size w w') => (h.below hb).cells)
 obtain ⟨_, e4, o4⟩ := hI.len
 have HRM : Hid (room E s k = decide ((s.es.length : Int) + (openX s.l : Int) + k ≤ E)) := Lib.hid rfl
 generalize room E s k = R at *
 generalize openX s.l = o at *
 generalize s.es.length = le at *
 have a0 : (0 : Int) ≤ (le : Int) := by omega
 have a1 : (le : Int) ≤ 400 := by omega
 have a2 : (0 : Int) ≤ (o : Int) := by omega
 have a3 : (o : Int) ≤ 400 := by omega
 clear h hI e4 o4
 go_enter Tryz.func61, Tryz.ntmps61
 go_upto_region 1 with fail
 refine wp_region_held_drew (S := fun w' => w'.cell? ⟨A, 1, none⟩ = some (.int .i64 E) ∧ w'.cell? ⟨A, 2, none⟩ = some (.pointer (some ⟨B, 0, none⟩)) ∧ w'.cell? ⟨A, 4, none⟩ = some (.slice ao le c)) (by kernel_rfl) ?_ (fun hHeld => ?_)
 · exact ⟨c1, c2, c4⟩
 refine tk 0 5 ?_
 simp only [lz]
 refine tk 1 6 ?_
 simp only [lz]
 refine tk 2 7 ?_
 simp only [lz]
 refine tk 3 8 ?_
 simp only [lz]
 refine tk 4 9 ?_
 simp only [lz]
 refine tk 5 10 ?_
 simp only [lz]
 refine tk 6 11 ?_
 simp only [lz]
 refine tk 7 12 ?_
 simp only [lz]
 refine tk 8 13 ?_
 simp only [lz]
 refine tk 11 16 ?_
 simp only [lz]
 refine tk 13 18 ?_
 simp only [lz]
 refine tk 14 19 ?_
 simp only [lz]
 refine tk 15 20 ?_
 simp only [lz]
 refine tk 16 21 ?_
 simp only [lz]
 refine tk 17 22 ?_
 simp only [lz]
 refine wpAnyH_ready (rs := [9]) (by kernel_rfl) (by simp) ?_
 refine AllReadyH.cons rfl (fun K hK => ?_) AllReadyH.nil
 go_simp
 refine (HO.out _ (below_drew _)).mono ?_
 rintro e w1 ⟨rfl, hb⟩
 have hb := below_undrew hb
 have HB := Lib.hid hb
 obtain ⟨d1, d2, _, d4⟩ := HC.out w1 hb
 clear hb
 dsimp only
 go_wp2_with fail
 refine hK.out _ _ ?_ (fun hHeld => ?_)
 · exact ⟨d1, d2, d4⟩
 clear hK K
 try simp only [Act.put, lg]
 try simp only [lz]
 refine tk 10 15 ?_
 simp only [lz]
 refine tk 12 17 ?_
 simp only [lz]
 refine tk 18 23 ?_
 simp only [lz]
 refine tk 19 4 ?_
 simp only [lz]
 refine wpAnyH_done (by kernel_rfl) ?_ _
 clear hHeld
 go_wp2
 go_ret
 have e1 : IntKind.i64.wrap ((le : Int) + (o : Int)) = (le : Int) + (o : Int) := by rw [IntKind.wrap_i64]; omega
 have e2 : IntKind.i64.wrap ((le : Int) + (o : Int) + k) = (le : Int) + (o : Int) + k := by rw [IntKind.wrap_i64]; omega
 rw [HRM.out]
 exact ⟨ret_bool (by rw [e1, e2]), HB.out⟩
end
def confOK (bs : List ISl) (E : Int) : Bool := mayF bs && decide (1 ≤ E ∧ E ≤ 400)
set_option maxRecDepth 100000 in
set_option maxHeartbeats 2000000 in
theorem check_any (ao : Option Addr) (bs : List ISl) (n cap : Nat) (E : Int) (w : World) (hn : bs.length = n) (h : IntsList w ao bs) :
 Calls Tryz.prog 28 #[.agg #[.slice ao n cap, .int .i64 E]] w fun e w' => e = .returned (.int .i64 (if confOK bs E = true then 0 else 1)) ∧ Below w.heap.size w w' := by
 obtain ⟨w1, hw1⟩ : ∃ w1, w1 = w.alloc (.cells #[.slice ao n cap, .int .i64 E] 24) := ⟨_, rfl⟩
 have hb1 : Below w.heap.size w w1 := by rw [hw1]; exact (Below.refl _ _).alloc (Nat.le_refl _) _
 have HX1 : Hid (w1.heap[w.heap.size]? = some (.cells #[.slice ao n cap, .int .i64 E] 24 (0, 0))) := Lib.hid (by rw [hw1]; exact heap_alloc_new _ _)
 have HB1 := Lib.hid hb1
 have HI := Lib.hid (h.below hb1)
 have HN := Lib.hid hn
 have HW1 := Lib.hid hw1
 clear hw1 hb1 h
 have q0 := blk_cell HX1.out 0
 simp only [lq] at q0
 cases hm : mayF bs
 case false =>
  have HR : Hid ((if confOK bs E = true then (0 : Int) else 1) = 1) := Lib.hid (by unfold confOK; rw [hm]; rfl)
  have HM := Lib.hid hm
  rw [HR.out]
  clear hm hn
  go_enter Tryz.func28, Tryz.ntmps28
  go_upto_region 1 with fail
  rw [← HW1.out]
  go_wp2_with fail
  refine (new_no ao bs n cap w1 HN.out HI.out HM.out).mono ?_
  rintro e w2 ⟨rfl, hb2⟩
  have HB2 := Lib.hid (below_step HB1.out hb2)
  clear hb2
  go_wp2
  go_ret
  exact ⟨rfl, HB2.out⟩
 have HNY := Lib.hid (new_yes ao bs n cap (bs.getD 0 default).zs.length w1 HN.out HI.out hm rfl)
 have hR : (if confOK bs E = true then (0 : Int) else 1) = if 1 ≤ E ∧ E ≤ 400 then 0 else 1 := by unfold confOK; rw [hm]; simp
 have HR : Hid ((E < 1 → (if confOK bs E = true then (0 : Int) else 1) = 1) ∧ (400 < E → (if confOK bs E = true then (0 : Int) else 1) = 1) ∧ (1 ≤ E → E ≤ 400 → (if confOK bs E = true then (0 : Int) else 1) = 0)) := Lib.hid ⟨fun h => by rw [hR, if_neg (by omega)], fun h => by rw [hR, if_neg (by omega)], fun h h2 => by rw [hR, if_pos ⟨h, h2⟩]⟩
 clear hR
 generalize (if confOK bs E = true then (0 : Int) else 1) = R at *
 clear hm hn
 go_enter Tryz.func28, Tryz.ntmps28
 go_upto_region 1 with fail
 rw [← HW1.out]
 go_wp2_with fail
 refine HNY.out.mono ?_
 rintro e w2 ⟨q, rfl, hq⟩
 have HB2 := Lib.hid (below_step HB1.out hq.2)
 have q1 := (World.cell?_of_block (a := ⟨w.heap.size, 1, none⟩) (hq.2.block _ (blk_lt HX1.out))).trans (blk_cell HX1.out 1)
 simp only [lq] at q1
 clear hq q0
 by_cases h1 : E < 1
 · have HQ := Lib.hid (HR.out.1 h1)
   go_wp2
   go_ret
   rw [HQ.out]
   exact ⟨rfl, HB2.out⟩
 by_cases h2 : 400 < E
 · have HQ := Lib.hid (HR.out.2.1 h2)
   go_wp2
   go_ret
   rw [HQ.out]
   exact ⟨rfl, HB2.out⟩
 have HQ := Lib.hid (HR.out.2.2 (by omega) (by omega))
 go_wp2
 go_ret
 rw [HQ.out]
 exact ⟨rfl, HB2.out⟩
set_option maxRecDepth 100000 in
set_option maxHeartbeats 2000000 in
theorem ledger_no (tb : Nat) (ao : Option Addr) (bs : List ISl) (n cap : Nat) (E : Int) (w : World) (hn : bs.length = n) (h : IntsList w ao bs) (hc : confOK bs E = false) :
 Calls Tryz.prog 10 #[.pointer (some ⟨tb, 0, none⟩), .agg #[.slice ao n cap, .int .i64 E]] w fun e w' => e = .returned (.tuple #[.pointer none, .int .i64 1]) ∧ Below w.heap.size w w' := by
 obtain ⟨w1, hw1⟩ : ∃ w1, w1 = w.alloc (.cells #[.slice ao n cap, .int .i64 E] 24) := ⟨_, rfl⟩
 have hb1 : Below w.heap.size w w1 := by rw [hw1]; exact (Below.refl _ _).alloc (Nat.le_refl _) _
 have HX1 : Hid (w1.heap[w.heap.size]? = some (.cells #[.slice ao n cap, .int .i64 E] 24 (0, 0))) := Lib.hid (by rw [hw1]; exact heap_alloc_new _ _)
 have HB1 := Lib.hid hb1
 have HCK := Lib.hid (check_any ao bs n cap E w1 hn (h.below hb1))
 rw [hc] at HCK
 have HW1 := Lib.hid hw1
 clear hw1 hb1 h hn hc
 have q0 := blk_cell HX1.out 0
 have q1 := blk_cell HX1.out 1
 simp only [lq] at q0 q1
 go_enter Tryz.func10, Tryz.ntmps10
 go_upto_region 1 with fail
 rw [← HW1.out]
 go_wp2_with fail
 refine HCK.out.mono ?_
 rintro e w2 ⟨rfl, hb2⟩
 have HB2 := Lib.hid (below_step HB1.out hb2)
 clear hb2
 go_wp2
 go_ret2
 exact ⟨rfl, HB2.out⟩
set_option maxRecDepth 100000 in
set_option maxHeartbeats 2000000 in
theorem ledger_yes (W : World) (tb : Nat) (ao : Option Addr) (bs : List ISl) (n cap m : Nat) (E : Int) (w : World) (hW : Below W.heap.size W w) (ht : TabOk w tb) (htW : W.heap.size ≤ tb) (hn : bs.length = n) (h : IntsList w ao bs) (hc : confOK bs E = true) (hm2 : (bs.getD 0 default).zs.length = m) :
 Calls Tryz.prog 10 #[.pointer (some ⟨tb, 0, none⟩), .agg #[.slice ao n cap, .int .i64 E]] w fun e w' => ∃ S A B q, e = .returned (.tuple #[.pointer (some ⟨A, 0, none⟩), .int .i64 0]) ∧
  LD S W w' n m E ⟨balOf bs, [], 0, []⟩ (fun j => tot (balOf bs) j n) A B tb q ∧ Below w.heap.size w w' ∧ ∀ i, S i → i = tb ∨ w.heap.size ≤ i := by
 obtain ⟨w1, hw1⟩ : ∃ w1, w1 = w.alloc (.cells #[.slice ao n cap, .int .i64 E] 24) := ⟨_, rfl⟩
 have hb1 : Below w.heap.size w w1 := by rw [hw1]; exact (Below.refl _ _).alloc (Nat.le_refl _) _
 obtain ⟨C, hC⟩ : ∃ C, C = w.heap.size := ⟨_, rfl⟩
 have HX1 : Hid (w1.heap[C]? = some (.cells #[.slice ao n cap, .int .i64 E] 24 (0, 0))) := Lib.hid (by rw [hw1, hC]; exact heap_alloc_new _ _)
 have HB1 := Lib.hid hb1
 have HCK := Lib.hid (check_any ao bs n cap E w1 hn (h.below hb1))
 rw [hc] at HCK
 have hcc := hc
 unfold confOK at hcc
 rw [Bool.and_eq_true, decide_eq_true_eq] at hcc
 obtain ⟨hm, e1, e4⟩ := hcc
 have HN := Lib.hid (fun w' (hb : Below w.heap.size w w') => new_yes ao bs n cap m w' hn (h.below hb) hm hm2)
 have HG : Hid (Good n m (balOf bs)) := Lib.hid (by have := (mayF_good hm).1; rw [hm2, hn] at this; exact this)
 have HE := Lib.hid (And.intro e1 e4)
 have HT := Lib.hid ht
 have HTW := Lib.hid htW
 have HWW := Lib.hid hW
 have HW1 := Lib.hid hw1
 have HCC := Lib.hid hC
 clear hw1 hb1 h hn hc hm hm2 e1 e4 ht htW hW hC
 generalize balOf bs = b0 at *
 have q0 := blk_cell HX1.out 0
 have q1 := blk_cell HX1.out 1
 simp only [lq] at q0 q1
 go_enter Tryz.func10, Tryz.ntmps10
 go_upto_region 1 with fail
 rw [← HW1.out, ← HCC.out]
 go_wp2_with fail
 refine HCK.out.mono ?_
 rintro e w2 ⟨rfl, hb2⟩
 have HB2 := Lib.hid (below_step HB1.out hb2)
 have HX2 : Hid (w2.heap[C]? = some (.cells #[.slice ao n cap, .int .i64 E] 24 (0, 0))) := Lib.hid ((hb2.block C (blk_lt HX1.out)).trans HX1.out)
 clear hb2 q0 q1
 have q0 := blk_cell HX2.out 0
 simp only [lq] at q0
 go_wp2_with fail
 refine (HN.out w2 HB2.out).mono ?_
 rintro e w3 ⟨q, rfl, hq⟩
 have HQ := Lib.hid hq
 have HB3 := Lib.hid (below_step HB2.out hq.2)
 have HX3 : Hid (w3.heap[C]? = some (.cells #[.slice ao n cap, .int .i64 E] 24 (0, 0))) := Lib.hid ((hq.2.block C (blk_lt HX2.out)).trans HX2.out)
 have HT3 := Lib.hid (HT.out.below HB3.out)
 clear hq q0
 have q1 := blk_cell HX3.out 1
 simp only [lq] at q1
 obtain ⟨Sp, hSp⟩ : ∃ Sp : Nat → Prop, Sp = fun k => w2.heap.size ≤ k ∧ k < w3.heap.size := ⟨_, rfl⟩
 have HPU : Hid (PAt 133 w3.drew q Sp n m b0) := Lib.hid (by rw [hSp]; exact HQ.out.1.below (below_drew _))
 have HSP : Hid (∀ k, Sp k → w2.heap.size ≤ k ∧ k < w3.heap.size) := Lib.hid (fun k hk => by rw [hSp] at hk; exact hk)
 clear hSp
 obtain ⟨B, hB⟩ : ∃ B, B = w3.heap.size := ⟨_, rfl⟩
 have HBB := Lib.hid hB
 clear hB
 go_upto_region 7 with fail
 refine wp_region_held_drew (S := fun w' => w'.cell? ⟨C, 1, none⟩ = some (.int .i64 E)) (by kernel_rfl) ?_ (fun hHeld => ?_)
 · exact q1
 refine tk 0 23 ?_
 simp only [lz]
 refine tk 1 24 ?_
 simp only [lz]
 refine tk 2 25 ?_
 simp only [lz]
 refine tk 3 26 ?_
 simp only [lz]
 refine tk 4 27 ?_
 simp only [lz]
 refine wpAnyH_ready (rs := [5]) (by kernel_rfl) (by simp) ?_
 refine AllReadyH.cons rfl (fun K hK => ?_) AllReadyH.nil
 go_simp
 refine (book_new tb q n m b0 Sp w3.drew HPU.out).mono ?_
 rintro e w4 ⟨rfl, hk, hb⟩
 have hsz : w3.drew.heap.size = B := HBB.out.symm
 rw [hsz] at hk ⊢
 have hb := below_undrew hb
 have HK := Lib.hid hk
 have HB4 := Lib.hid hb
 have q14 := (World.cell?_of_block (a := ⟨C, 1, none⟩) (hb.block C (blk_lt HX3.out))).trans (blk_cell HX3.out 1)
 simp only [lq] at q14
 clear hk hb hsz
 dsimp only
 go_wp2_with fail
 refine hK.out _ _ ?_ (fun hHeld => ?_)
 · exact q14
 clear hK K
 try simp only [Act.put, lg]
 try simp only [lz]
 refine tk 6 29 ?_
 simp only [lz]
 refine wpAnyH_ready (rs := [7]) (by kernel_rfl) (by simp) ?_
 refine AllReadyH.cons rfl (fun K hK => ?_) AllReadyH.nil
 go_simp
 obtain ⟨w5, hw5⟩ : ∃ w5, w5 = w4.alloc (.cells #[.slice none 0 0, .int .i64 E, .pointer (some ⟨B, 0, none⟩), .int .i64 0, .slice none 0 0] 85) := ⟨_, rfl⟩
 rw [← hw5]
 have hb5 : Below w4.heap.size w4 w5 := by rw [hw5]; exact (Below.refl _ _).alloc (Nat.le_refl _) _
 have HA5 : Hid (w5.heap[w4.heap.size]? = some (.cells #[.slice none 0 0, .int .i64 E, .pointer (some ⟨B, 0, none⟩), .int .i64 0, .slice none 0 0] 85 (0, 0))) := Lib.hid (by rw [hw5]; exact heap_alloc_new _ _)
 have HB5 := Lib.hid hb5
 have q15 := (World.cell?_of_block (a := ⟨C, 1, none⟩) (hb5.block C (Nat.lt_of_lt_of_le (blk_lt HX3.out) HB4.out.size))).trans q14
 clear hw5 hb5
 go_wp2_with fail
 refine hK.out _ _ ?_ (fun hHeld => ?_)
 · exact q15
 clear hK K
 try simp only [Act.put, lg]
 try simp only [lz]
 refine tk 8 4 ?_
 simp only [lz]
 refine tk 9 5 ?_
 simp only [lz]
 refine wpAnyH_done (by kernel_rfl) ?_ _
 clear hHeld
 go_wp2
 go_ret2
 have hs2 := HB2.out.size
 have hs3 := HQ.out.2.size
 have hs4 := HB4.out.size
 have hW := HWW.out.size
 have hBe := HBB.out
 have hbw : Below w.heap.size w w5 := below_step (below_step HB3.out HB4.out) HB5.out
 have hB4 : B < w4.heap.size := blk_lt HK.out.box
 have htl := HT.out.lt
 have hnew : ∀ i, (fpK Sp B (.slice none 0 0) i ∨ i = tb) → i = tb ∨ w.heap.size ≤ i := by
  rintro i ((rfl | hi | hi) | rfl)
  · exact Or.inr (by omega)
  · cases hi
  · exact Or.inr (by have := (HSP.out i hi).1; omega)
  · exact Or.inl rfl
 have hgood := HG.out
 have heb : EB (fun i => fpK Sp B (.slice none 0 0) i ∨ i = tb) W w5 n m b0 [] (fun j => tot b0 j n) B tb q := by
  refine ⟨Sp, .slice none 0 0, HK.out.below HB5.out, fun h => by have := (HSP.out tb h).1; omega, (HT3.out.below HB4.out).below HB5.out, ⟨hgood, fun x hx => by simp at hx, fun j hj => by show tot b0 j n + 0 = _; omega, fun j hj => hgood.sum j hj, by simp⟩, below_step HWW.out hbw, fun i => Iff.rfl, fun i hi => ?_⟩
  rcases hnew i hi with h | h
  · have := HTW.out; omega
  · omega
 refine ⟨fun i => (fpK Sp B (.slice none 0 0) i ∨ i = tb) ∨ i = w4.heap.size ∨ (Value.slice none 0 0).ownBlock = some i, w4.heap.size, B, q, rfl, ⟨_, .slice none 0 0, ⟨heb, HA5.out, World.ownsRow_nil _ _ _ _, ?_, (fun g hg => by cases hg), (by omega), (fun g hg => by cases hg)⟩, ⟨heb.inv, by show (0 : Int) + 0 ≤ E; have := HE.out; omega, HE.out, ⟨Int.le_refl _, by show (0 : Int) ≤ MT; unfold MT; omega⟩, Nat.le_refl _⟩, fun i => Iff.rfl⟩, hbw, ?_⟩
 · rintro ((h | h | h) | h)
   · omega
   · cases h
   · have := (HSP.out _ h).2; omega
   · omega
 · rintro i (hi | rfl | hi)
   · exact hnew i hi
   · exact Or.inr (by omega)
   · cases hi
def noE : EV := ⟨0, 0, 0, 0, 0, 0, 0, ⟨#[]⟩, ⟨#[]⟩⟩
def EV.list (e : EV) : List Value := e.cells.toList
theorem Try_infoE9 : (Tryz.prog.info? 55).map (fun i => (i.zero, i.size, i.bytes)) = some (some (.agg noE.cells), 9, 88) := by kernel_rfl
theorem evs_of_own {w : World} {ao : Option Addr} {n c : Nat} {es : List EV} (hn : es.length = n) (h : w.ownsRow 0 55 9 (.slice ao n c) n (es.flatMap EV.list)) : EvsAt w ao es := by
 by_cases h0 : n = 0
 · exact Or.inl (List.eq_nil_of_length_eq_zero (by omega))
 · obtain ⟨g, rfl, hc⟩ := own_cell h (by omega)
   refine Or.inr ⟨g, 0, rfl, fun i hi j u hu => ?_⟩
   have hj : j < 9 := by
    have := (Array.getElem?_eq_some_iff.1 hu).1
    exact this
   have hf := flat_get EV.list 9 (fun _ => rfl) es i hi j hj
   have hx : (es[i].list)[j]? = es[i].cells[j]? := Array.getElem?_toList
   rw [hx, hu] at hf
   rw [Nat.zero_add]
   exact hc _ u hf
theorem EvsAt.drop {w : World} {ao : Option Addr} {es : List EV} (h : EvsAt w ao es) (k : Nat) (hk : k ≤ es.length) : EvsAt w (ao.map (·.add (k * 9))) (es.drop k) := by
 rcases h with h | ⟨b, off, rfl, h2⟩
 · exact Or.inl (by rw [h]; simp)
 · refine Or.inr ⟨b, off + k * 9, by rw [Option.map_some, addr_add], fun i hi => ?_⟩
   rw [List.length_drop] at hi
   rw [List.getElem_drop]
   have h3 := h2 (k + i) (by omega)
   have e : off + (k + i) * 9 = off + k * 9 + i * 9 := by rw [Nat.add_mul]; omega
   rw [e] at h3
   exact h3
def slcE (ro : Option Addr) (lo rc : Nat) : Option Addr := if rc = lo then ro else ro.map (·.add (lo * 9))
theorem slice_ev (ro : Option Addr) (q rc lo : Nat) (h1 : lo ≤ q) (w : World) :
 (Instr.slice 35 (.slice ro q rc) (some (.int .i64 (lo : Int))) none none).run Tryz.prog w = .ok (.slice (slcE ro lo rc) (q - lo) (rc - lo)) w := by
 have hu := Tryz.underlying35
 obtain ⟨i0, hi0, hz0, hz1, hz2⟩ := info_parts Try_infoE9
 have hce : Tryz.prog.cellsOf 55 = 9 := by kernel_rfl
 unfold slcE
 simp [go_sem, hu, h1, hce]
theorem slcE_at {w : World} {ro : Option Addr} {es : List EV} {rc : Nat} (h : EvsAt w ro es) (k : Nat) (hk : k ≤ es.length) (hrc : es.length ≤ rc) : EvsAt w (slcE ro k rc) (es.drop k) := by
 unfold slcE
 split
 · exact Or.inl (List.drop_of_length_le (by omega))
 · exact h.drop k hk
section
variable {Sb : Nat → Prop} {W w : World} {n m : Nat} {E : Int} {s : LS} {T : Nat → Int} {A B tb q : Nat} {v : Value}
theorem LDat.dn {ao : Option Addr} {c : Nat} (h : LDat Sb W w n m E s T A B tb q (.slice ao s.es.length c)) (i : Nat) (hi : i < s.es.length) : ∃ g, ao = some ⟨g, 0, none⟩ ∧ ∀ j, j < 11 → w.cell? ⟨g, i * 11 + j, none⟩ = s.es[i].cells[j]? := by
 obtain ⟨g, rfl, hc⟩ := own_cell h.row (by omega)
 refine ⟨g, rfl, fun j hj => ?_⟩
 have hf := flat_get DN.list 11 (fun _ => rfl) s.es i hi j hj
 have hx : (s.es[i].list)[j]? = s.es[i].cells[j]? := Array.getElem?_toList
 rw [hx] at hf
 obtain ⟨u, hu⟩ : ∃ u, s.es[i].cells[j]? = some u := ⟨_, Array.getElem?_eq_getElem (show j < s.es[i].cells.size from hj)⟩
 rw [hu] at hf ⊢
 exact hc _ u hf
def DnB (w : World) (X : Nat) (d : DN) : Prop := w.heap[X]? = some (.cells d.cells 106 (0, 0))
theorem DnB.all {w : World} {X : Nat} {d : DN} (h : DnB w X d) : w.cell? ⟨X, 0, none⟩ = some (.int .i64 d.p) ∧ w.cell? ⟨X, 1, none⟩ = some (.int .i64 d.c) ∧ w.cell? ⟨X, 2, none⟩ = some (.int .i64 d.e.k) ∧ w.cell? ⟨X, 3, none⟩ = some (.int .i64 d.e.f) ∧ w.cell? ⟨X, 4, none⟩ = some (.int .i64 d.e.t) ∧ w.cell? ⟨X, 5, none⟩ = some (.int .i64 d.e.a) ∧ w.cell? ⟨X, 6, none⟩ = some (.int .i64 d.e.n) ∧ w.cell? ⟨X, 7, none⟩ = some (.int .i64 d.e.i) ∧ w.cell? ⟨X, 8, none⟩ = some (.int .i64 d.e.d) ∧ w.cell? ⟨X, 9, none⟩ = some (.string d.e.h) ∧ w.cell? ⟨X, 10, none⟩ = some (.string d.e.s) :=
 ⟨blk_cell h 0, blk_cell h 1, blk_cell h 2, blk_cell h 3, blk_cell h 4, blk_cell h 5, blk_cell h 6, blk_cell h 7, blk_cell h 8, blk_cell h 9, blk_cell h 10⟩
theorem ev_one (e : EV) : ∀ u ∈ e.list, u.oneCell' = true := by
 intro u hu
 simp only [EV.list, EV.cells, List.mem_cons, List.not_mem_nil, or_false] at hu
 rcases hu with e | e | e | e | e | e | e | e | e <;> rw [e] <;> rfl
set_option maxRecDepth 100000 in
set_option maxHeartbeats 4000000 in
theorem ledger_events (h : LDat Sb W w n m E s T A B tb q v) (hl : s.es.length ≤ 400) :
 Calls Tryz.prog 13 #[.pointer (some ⟨A, 0, none⟩)] w fun e w' => ∃ ao c, e = .returned (.slice ao s.es.length c) ∧ w'.ownsRow 0 55 9 (.slice ao s.es.length c) s.es.length (s.evs.flatMap EV.list) ∧ Below w.heap.size w w' ∧ ∀ g, (Value.slice ao s.es.length c).ownBlock = some g → w.heap.size ≤ g := by
 obtain ⟨lo, lc, rfl, _, _⟩ := own_shape h.row
 obtain ⟨_, _, _, c4⟩ := h.cells
 have H := Lib.hid h
 obtain ⟨ln, hln⟩ : ∃ ln, ln = s.es.length := ⟨_, rfl⟩
 have HL : Hid (s.es.length = ln ∧ ln ≤ 400) := Lib.hid ⟨hln.symm, by omega⟩
 rw [← hln] at c4 ⊢
 obtain ⟨i0, hi0, hz0, hz1, hz2⟩ := info_parts Try_infoE9
 clear h hl hln
 go_enter Tryz.func13, Tryz.ntmps13
 go_wp2_with fail
 clear c4
 go_loopw [3, 11] (fun o i wr => ∃ k : Nat, k ≤ ln ∧ i = .int .i64 (k : Int) ∧ ∃ ao c, o = .slice ao k c ∧ wr.ownsRow 0 55 9 (.slice ao k c) k ((s.evs.take k).flatMap EV.list) ∧ Below w.heap.size w wr ∧ ∀ g, (Value.slice ao k c).ownBlock = some g → w.heap.size ≤ g) (fun _ i _ => ln - (intOf i).toNat)
 case atStart => exact ⟨0, by omega, rfl, none, 0, rfl, World.ownsRow_nil _ _ _ _, Below.refl _ _, fun g hg => by cases hg⟩
 case round =>
  obtain ⟨k, hk, rfl, ao, c, rfl, hrow, hb, hnew⟩ := hrel
  have HB := Lib.hid hb
  have HROW := Lib.hid hrow
  have HNEW := Lib.hid hnew
  clear hb hrow hnew
  by_cases hlt : k < ln
  · have k0 : (0 : Int) ≤ (k : Int) := by omega
    have k1 : (k : Int) < (ln : Int) := by omega
    have hkl : k < s.es.length := by rw [HL.out.1]; exact hlt
    have HKL : Hid (k < ln) := Lib.hid hlt
    obtain ⟨g, rfl, hc⟩ := (H.out.below HB.out).dn k hkl
    have HEV : Hid (s.evs.take (k + 1) = s.evs.take k ++ [s.es[k].e]) := Lib.hid (by
     unfold LS.evs
     rw [List.take_add_one, List.getElem?_eq_getElem (by rw [List.length_map]; exact hkl)]; simp)
    generalize s.es[k] = d at *
    have e0 := hc 0 (by omega)
    have e1 := hc 1 (by omega)
    have e2 := hc 2 (by omega)
    have e3 := hc 3 (by omega)
    have e4 := hc 4 (by omega)
    have e5 := hc 5 (by omega)
    have e6 := hc 6 (by omega)
    have e7 := hc 7 (by omega)
    have e8 := hc 8 (by omega)
    have e9 := hc 9 (by omega)
    have e10 := hc 10 (by omega)
    simp only [DN.cells, lq, Nat.add_zero] at e0 e1 e2 e3 e4 e5 e6 e7 e8 e9 e10
    obtain ⟨w1, hw1⟩ : ∃ w1, w1 = wr.alloc (.cells d.cells 106) := ⟨_, rfl⟩
    obtain ⟨V, hV⟩ : ∃ V, V = wr.heap.size := ⟨_, rfl⟩
    have hb1 : Below wr.heap.size wr w1 := by rw [hw1]; exact (Below.refl _ _).alloc (Nat.le_refl _) _
    have HB1 : Hid (Below w.heap.size w w1) := Lib.hid (below_step HB.out hb1)
    have HX1 : Hid (DnB w1 V d) := Lib.hid (by rw [hw1, hV]; exact heap_alloc_new _ _)
    have HR1 : Hid (w1.ownsRow 0 55 9 (.slice ao k c) k ((s.evs.take k).flatMap EV.list)) := Lib.hid (ownsRow_same HROW.out (fun g hg => hb1.block g (HROW.out.lt g hg).2))
    have HW1 := Lib.hid hw1
    have HV := Lib.hid hV
    unfold DN.cells at HW1
    have HML : Hid (ln - (k + 1) < ln - k) := Lib.hid (by omega)
    clear hc hw1 hb1 hV hk hlt
    go_upto_region 5 with fail
    rw [← HW1.out, ← HV.out]
    clear e0 e1 e2 e3 e4 e5 e6 e7 e8 e9 e10 HW1
    obtain ⟨q0, q1, q2, q3, q4, q5, q6, q7, q8, q9, q10⟩ := HX1.out.all
    obtain ⟨x, hx⟩ : ∃ x, x = d.e := ⟨_, rfl⟩
    rw [← hx] at q2 q3 q4 q5 q6 q7 q8 q9 q10
    rw [← hx] at HEV
    have HPA : Hid ((w1.alloc (.cells x.cells 55)).ownsRow 0 55 9 (.slice ao k c) k ((s.evs.take k).flatMap EV.list)) := Lib.hid (ownsRow_same HR1.out (fun g hg => Below.heap_alloc _ _ _ (HR1.out.lt g hg).2))
    have HNW : Hid (∀ ad, some (⟨w1.heap.size, 0, none⟩ : Addr) = some ad → ∀ j u, (x.list)[j]? = some u → (w1.alloc (.cells x.cells 55)).cell? (ad.add j) = some u) := Lib.hid (fun ad had => by
     cases had
     intro j u hu
     rw [addr_add, Nat.zero_add, blk_cell (heap_alloc_new w1 (.cells x.cells 55))]
     unfold EV.list at hu
     rw [← hu, Array.getElem?_toList])
    have HX2 := Lib.hid (ev_one x)
    have HB2 : Hid (Below w.heap.size w (w1.alloc (.cells x.cells 55))) := Lib.hid (HB1.out.alloc HB1.out.size _)
    have HLX := HL.out.2
    unfold EV.cells at HPA HNW HB2
    clear hx
    go_wp2_with (at_builtin; refine wpList_append_any rfl _ _ 35 rfl 55 i0 _ 9 88 Tryz.underlying35 hi0 hz0 hz1 hz2 rfl (by decide) (.slice ao k c) k _ rfl HPA.out (some ⟨w1.heap.size, 0, none⟩) 1 1 x.list rfl ?q1 ?q2 ?q3 ?q4 ?q5 ?q6 ?_)
    case q1 => rfl
    case q2 => intro e; cases e
    case q3 => exact HNW.out
    case q4 => exact HX2.out
    case q5 => have := HKL.out; unfold maxLen; omega
    case q6 => have := HKL.out; omega
    intro ao3 cap3 w3 hown hgrow hat hnn
    have HO3 : Hid (w3.ownsRow 0 55 9 (.slice ao3 (k + 1) cap3) (k + 1) ((s.evs.take (k + 1)).flatMap EV.list)) := Lib.hid (by
     rw [HEV.out, List.flatMap_append]
     simp only [List.flatMap_cons, List.flatMap_nil, List.append_nil]
     exact hown)
    have HB3 : Hid (Below w.heap.size w w3) := Lib.hid (below_fp HB2.out ((Keeps.refl (fun i => (Value.slice ao k c).ownBlock = some i) _).grown hgrow (fun i hi => Or.inl hi)) (fun i hi => HNEW.out i hi))
    have HA3 : Hid (∀ g, (Value.slice ao3 (k + 1) cap3).ownBlock = some g → w.heap.size ≤ g) := Lib.hid (fun g hg => by
     rcases hat g hg with h | h
     · exact HNEW.out g h
     · have := HB1.out.size; omega)
    clear hown hgrow hat hnn q0 q1 q2 q3 q4 q5 q6 q7 q8 q9 q10
    go_wp2
    go_roundw
    case rel => exact ⟨k + 1, HKL.out, by go_num, ao3, cap3, rfl, HO3.out, HB3.out, HA3.out⟩
    case measure => simpa [intOf] using HML.out
  · obtain rfl : k = ln := by omega
    have HT : Hid (s.evs.take k = s.evs) := Lib.hid (List.take_of_length_le (by unfold LS.evs; rw [List.length_map, HL.out.1]; exact Nat.le_refl _))
    rw [HT.out] at HROW
    clear hlt hk
    go_wp2
    go_ret
    exact ⟨ao, c, rfl, HROW.out, HB.out, HNEW.out⟩
end
end Go.Proofs.YtkaciaehlibidaaGreat
