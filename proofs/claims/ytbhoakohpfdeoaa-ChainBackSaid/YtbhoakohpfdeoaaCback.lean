/- ChainBack is true for every input, and its arguments read behind the call as before; no condition: the walk. -/
import Derived.Test.YtbhoakohpfdeoaaChl
namespace Go.Proofs.Ytbhoakohpfdeoaa
open Go.RowKit
set_option linter.unusedVariables false
set_option linter.unusedSimpArgs false

theorem export_bad {l : List ER} (h : (exportF l).2 ≠ 0) : (exportF l).1 = [] := by
  unfold exportF at h ⊢
  split
  · rename_i h1
    rw [if_pos h1] at h
    split
    · rfl
    · rename_i h2
      rw [if_neg h2] at h
      exact absurd rfl h
  · rfl

set_option maxRecDepth 100000 in
set_option maxHeartbeats 4000000 in
theorem cback_core (W : World) (ao : Option Addr) (es : List EV) (n c : Nat) (hn : es.length = n) (h : EntAt W ao es) (hcap : n ≤ c) (hcm : c ≤ maxLen) (at' turn : Int) (hturn : 0 ≤ turn ∧ turn ≤ 255) :
    Calls Try.prog 6 #[.slice ao n c, .int .i64 at', .int .u8 turn] W fun e w' => e = .returned (.bool true) ∧ Below W.heap.size W w' := by
  have HN := Lib.hid hn
  have HE := Lib.hid h
  have HC := Lib.hid (And.intro hcap hcm)
  have HTU := Lib.hid hturn
  clear hn h hcap hcm hturn
  go_enter Try.func6, Try.ntmps6
  go_wp2_with fail
  refine (first22_any W).mono ?_
  rintro e w1 ⟨rfl, hb1⟩
  have HB1 := Lib.hid hb1
  clear hb1
  have HF := Lib.hid (few22_any ao es n c w1 HN.out (HE.out.below HB1.out) HC.out.1 HC.out.2)
  have HFF := Lib.hid (@few22_facts es)
  generalize fewB (es.map (fun e => e.b.length)) 100 100000 = F at *
  go_wp2_with fail
  refine HF.out.mono ?_
  rintro e w9 ⟨rfl, rfl⟩
  cases F with
  | false =>
    go_wp2_with fail
    refine (first22_any w1).mono ?_
    rintro e w2 ⟨rfl, hb2⟩
    have HB2 := Lib.hid (below_step HB1.out hb2)
    clear hb2
    go_wp2
    go_ret
    exact ⟨rfl, HB2.out⟩
  | true =>
  have HFS := Lib.hid (HFF.out rfl)
  have HNS : Hid (n ≤ 100) := Lib.hid (by have := HFS.out.1; rw [HN.out] at this; exact this)
  clear HF HFF
  go_wp2_with fail
  refine (newTable_any w1).mono ?_
  rintro e w2 ⟨rfl, ht2, hb2⟩
  have HS2 : Hid (St W w1.heap.size w2) := Lib.hid ⟨ht2, below_step HB1.out hb2, HB1.out.size⟩
  clear ht2 hb2 HB1
  generalize w1.heap.size = tb at *
  have HXP := Lib.hid (export_any tb ao es n c w2 HS2.out.tab HN.out ((HE.out.ents (S := fun i => i = tb) (fun i hi => by have := HS2.out.own; omega)).below HS2.out.bel) HC.out.1 HC.out.2 (by have := HNS.out; omega) (by have := HFS.out.2; omega))
  have HXI : Hid (InB (exportF (ersL es)).1) := Lib.hid (exportF_inB (fun e he => by
    obtain ⟨x, hx, rfl⟩ := List.mem_map.1 he
    exact (HE.out.2 x hx).2.1))
  have HXB := Lib.hid (@export_bad (ersL es))
  have HXO := Lib.hid (@export_ok (ersL es))
  have HIX := Lib.hid (@import_export (ersL es))
  have HXLL : Hid ((exportF (ersL es)).1.length ≤ 200000) := Lib.hid (by
    have h1 := HFS.out.2
    unfold exportF
    split
    · split
      · simp
      · dsimp only; rw [List.length_append, List.length_append, headC_len, putB_length]; omega
    · simp)
  unfold XPost at HXP
  generalize hX : exportF (ersL es) = R at *
  obtain ⟨X, er⟩ := R
  have HXE := Lib.hid hX
  clear hX
  dsimp only at HXP HXI HXB HXO HIX HXLL
  obtain ⟨xn, hxn⟩ : ∃ xn, xn = X.length := ⟨_, rfl⟩
  have HXN : Hid (X.length = xn) := Lib.hid hxn.symm
  rw [← hxn] at HXP HXLL
  clear hxn
  go_wp2_with fail
  with_reducible refine HXP.out.mono ?_
  rintro e w3 ⟨a3, c3, rfl, ht3, ho3, hk3, hf3⟩
  have HS3 := Lib.hid (HS2.out.step hk3 ht3)
  have HO3 : Hid (w3.ownsRow 0 5 1 (.slice a3 xn c3) xn (X.map (Value.int .u8))) := Lib.hid (by rw [HXN.out] at ho3; exact ho3)
  have HLO : Hid (Own tb w3 a3 X xn c3) := Lib.hid ⟨HO3.out, HXN.out, HXI.out, fun a ha => tab_ne_row HO3.out (by rw [ha]; rfl) HS3.out.tab⟩
  clear ht3 ho3 hk3 hf3 HXP HS2
  by_cases her : er = 0
  case neg =>
    have hb : (er == 0) = false := by simp [her]
    have hb' : (er != 0) = true := by simp [her]
    have hx0 : xn = 0 := by rw [← HXN.out, HXB.out her]; rfl
    have hb2 : ((xn : Int) == 0) = true := by rw [hx0]; rfl
    clear her hx0
    go_wp2_with fail
    refine (first22_any w3).mono ?_
    rintro e w4 ⟨rfl, hb4⟩
    have HS4 := Lib.hid (HS3.out.below hb4)
    clear hb4
    go_wp2
    go_ret
    exact ⟨rfl, HS4.out.bel⟩
  have HXO2 := Lib.hid (HXO.out her)
  have HIX2 := Lib.hid (HIX.out her)
  have hb0 : ((0 : Int) != 0) = false := rfl
  subst her
  clear HXO HIX HXB
  have HXEQ : Hid (X = headC (ersL es) ++ putB n 2 ++ bodyC (ersL es)) := Lib.hid (by
    have h := HXO2.out.2.2
    rw [ersL_len, HN.out] at h
    exact congrArg Prod.fst h)
  have HX34 : Hid (34 ≤ xn ∧ X.take 32 = headC (ersL es)) := Lib.hid ⟨by rw [← HXN.out, HXEQ.out, List.length_append, List.length_append, headC_len, putB_length]; omega, by rw [HXEQ.out, List.append_assoc, ← headC_len (ersL es), List.take_left]⟩
  have HIM := Lib.hid (import_any tb a3 X xn c3 w3 HS3.out.tab HXN.out HLO.out.lie.ints HXI.out (Or.inr HLO.out.off) HLO.out.lie.cap HLO.out.lie.cm (by have := HXLL.out; omega))
  rw [HIX2.out] at HIM
  unfold ImpPost at HIM
  dsimp only at HIM
  rw [ersL_len, HN.out] at HIM
  go_wp2_with fail
  with_reducible refine HIM.out.mono ?_
  rintro e w4 ⟨a4, c4, us, rfl, ht4, hk4, hu4, he4, hl4, hm4⟩
  have HS4 := Lib.hid (HS3.out.step hk4 ht4)
  have HLO4 := Lib.hid (HLO.out.step hk4)
  have HU4 := Lib.hid hu4
  have HE4 := Lib.hid he4
  have HL4 := Lib.hid (And.intro hl4 hm4)
  clear ht4 hk4 hu4 he4 hl4 hm4 HIM HO3 HLO HS3
  have HCN := Lib.hid (chain_new tb w4 HS4.out.tab)
  go_wp2_with fail
  refine HCN.out.mono ?_
  rintro e w5 ⟨p, rfl, ht5, hc5, hb5, hp5⟩
  have HS5 := Lib.hid (HS4.out.below hb5)
  have HC5 := Lib.hid hc5
  have HPW : Hid (W.heap.size ≤ p) := Lib.hid (Nat.le_trans HS4.out.bel.size hp5)
  have HLO5 := Lib.hid (HLO4.out.below hb5)
  have HE5 := Lib.hid (HE4.out.below hb5)
  have HPX : Hid (∀ g, (Value.slice a3 xn c3).ownBlock = some g → g ≠ p) := Lib.hid (fun g hg => by have := (HLO4.out.row.lt g hg).2; omega)
  clear ht5 hc5 hb5 hp5 HCN HS4 HLO4 HE4
  have HSA := Lib.hid (chain_same a4 ao us es n n c4 c w5 (by have := congrArg List.length HU4.out; rw [ersL_len, ersL_len, HN.out] at this; exact this) HN.out HE5.out (HE.out.below HS5.out.bel) HL4.out.1 HL4.out.2 HC.out.1 HC.out.2 (by have := HNS.out; omega))
  rw [HU4.out, sameC_self] at HSA
  have hxn : ¬ (xn : Int) < 34 := by have := HX34.out; omega
  go_wp2_with fail
  refine HSA.out.mono ?_
  rintro e w6 ⟨rfl, hb6⟩
  have HS6 := Lib.hid (HS5.out.below hb6)
  have HC6 := Lib.hid (HC5.out.below hb6)
  have HLO6 := Lib.hid (HLO5.out.below hb6)
  clear hb6 HSA HS5 HC5 HLO5 HE5
  go_wp2_with fail
  clear hxn
  go_loopw [13] (fun i wr => ∃ k : Nat, k ≤ n ∧ i = .int .i64 (k : Int) ∧ St W tb wr ∧ CI tb wr p (ersL (es.take k)) ∧ Own tb wr a3 X xn c3) (fun i _ => n - (intOf i).toNat)
  case atStart => exact ⟨0, by omega, rfl, HS6.out, HC6.out, HLO6.out⟩
  case round =>
    obtain ⟨k, hk, rfl, hs, hc, ho⟩ := hrel
    have HS := Lib.hid hs
    have HCI := Lib.hid hc
    have HLO := Lib.hid ho
    clear hs hc ho
    by_cases hlt : k < n
    · have i1 : (k : Int) < (n : Int) := by omega
      have hkb : k < es.length := by rw [HN.out]; exact hlt
      have HKN : Hid (k < n) := Lib.hid hlt
      have HCO := Lib.hid (fun (wx : World) (hb : Below W.heap.size W wx) (b off : Nat) (ha : ao = some ⟨b, off, none⟩) => entAt_off (HE.out.below hb) b off ha k hkb)
      have HXW := Lib.hid (HE.out.2 es[k] (List.getElem_mem hkb))
      have HSU := Lib.hid (ersL_succ es k hkb)
      rw [← ersL_take, ← ersL_take] at HSU
      have HOK : Hid (badF es[k].er = 0) := Lib.hid ((badF_ok _).2 (HXO2.out.1 _ (List.mem_map.2 ⟨es[k], List.getElem_mem hkb, rfl⟩)))
      obtain ⟨m1, hm1⟩ : ∃ m1, m1 = es[k].b.length := ⟨_, rfl⟩
      rw [← hm1] at HCO
      have HMM : Hid (es[k].er.b.length = m1) := Lib.hid hm1.symm
      obtain ⟨b, off, hao⟩ : ∃ b off, ao = some ⟨b, off, none⟩ := HE.out.some (fun e => by rw [e] at hkb; simp at hkb)
      subst hao
      clear hm1 hlt hk
      generalize es[k] = ek at *
      obtain ⟨x0, x1⟩ := HCO.out wr HS.out.bel b off rfl
      have HAD := Lib.hid (chain_add tb p (ersL (es.take k)) ek.er ek.ao m1 ek.c wr HS.out.tab HCI.out HMM.out (ints_below HXW.out.1 HS.out.bel) HXW.out.2.1 (by rw [ersL_len, List.length_take]; have := HNS.out; have := HKN.out; omega))
      unfold EV.er at HAD HOK
      dsimp only at HAD
      rw [HOK.out] at HAD
      go_wp2_with fail
      with_reducible refine HAD.out.mono ?_
      rintro e w7 ⟨rfl, ht7, ⟨qa, qc, hc7, _⟩, hk7⟩
      rw [if_pos trivial] at hc7
      have HS7 := Lib.hid (HS.out.two HPW.out hk7 ht7)
      have HC7 : Hid (CI tb w7 p (ersL (es.take (k + 1)))) := Lib.hid (by rw [HSU.out]; exact ⟨qa, qc, hc7⟩)
      have HLO7 : Hid (Own tb w7 a3 X xn c3) := Lib.hid ⟨hk7.row HLO.out.row (two_ty HS.out.tab HCI.out), HLO.out.len, HLO.out.inb, HLO.out.off⟩
      have HML2 : Hid (n - (intOf (.int .i64 ((k + 1 : Nat) : Int))).toNat < n - (intOf (.int .i64 (k : Int))).toNat) := Lib.hid (by simp only [intOf]; have := HKN.out; omega)
      have HW1 : Hid (wrap64 ((k : Int) + 1) = ((k + 1 : Nat) : Int)) := Lib.hid (by have := HKN.out; have := HNS.out; unfold wrap64; omega)
      clear ht7 hc7 hk7 HAD x0 x1
      go_wp2
      try rw [HW1.out]
      exact ⟨⟨k + 1, HKN.out, rfl, HS7.out, HC7.out, HLO7.out⟩, HML2.out⟩
    · obtain rfl : k = n := by omega
      have i1 : ¬ (k : Int) < (k : Int) := by omega
      have HTK := Lib.hid (show es.take k = es from List.take_of_length_le (by rw [HN.out]; exact Nat.le_refl _))
      rw [HTK.out] at HCI
      clear hlt hk
      have HHL := Lib.hid (headC_len (ersL es))
      have hs32 : ∀ w, (Instr.slice 29 (.slice a3 xn c3) none (some (.int .i64 32)) none).run Try.prog w = .ok (.slice a3 32 c3) w := fun w => slice_h a3 xn c3 32 (by have := HLO.out.lie.cap; have := HX34.out; omega) w
      go_upto_region 17 with fail
      refine wp_region_held_drew (S := fun _ => True) (by kernel_rfl) ?_ (fun hHeld => ?_)
      · trivial
      refine take_at (i := 0) (d := 77) (v := ?_) rfl rfl (by kernel_rfl) (by kernel_rfl) (by kernel_rfl) (fun _ _ _ h => h) (Or.inl ⟨by rfl, by intro w' hSw; (try dsimp only at hSw); go_simp; try with_reducible rfl⟩) (by assumption) ?_
      simp only [List.setIfInBounds_toArray, List.set_cons_zero, List.set_cons_succ]
      refine take_at (i := 2) (d := 79) (v := ?_) rfl rfl (by kernel_rfl) (by kernel_rfl) (by kernel_rfl) (fun _ _ _ h => h) (Or.inl ⟨by rfl, by intro w' hSw; (try dsimp only at hSw); go_simp; try with_reducible rfl⟩) (by assumption) ?_
      simp only [List.setIfInBounds_toArray, List.set_cons_zero, List.set_cons_succ]
      refine take_at (i := 3) (d := 80) (v := ?_) rfl rfl (by kernel_rfl) (by kernel_rfl) (by kernel_rfl) (fun _ _ _ h => h) (Or.inl ⟨by rfl, by intro w' hSw; (try dsimp only at hSw); go_simp; try with_reducible rfl⟩) (by assumption) ?_
      simp only [List.setIfInBounds_toArray, List.set_cons_zero, List.set_cons_succ]
      refine wpAnyH_ready (rs := [1]) (by kernel_rfl) (by simp) ?_
      refine AllReadyH.cons rfl (fun K hK => ?_) AllReadyH.nil
      go_simp
      refine (chain_head tb p (ersL es) wr.drew HCI.out).mono ?_
      rintro e w7 ⟨a7, c7, rfl, hr7⟩
      rw [headC_len] at hr7 ⊢
      have HB7 := Lib.hid (below_undrew hr7.2.1)
      have HI7 : Hid (IntsAt .u8 w7 a7 (headC (ersL es))) := Lib.hid (by have h := hr7.1; rw [headC_len] at h; exact (owns_at h).2.1)
      clear hr7
      dsimp only
      go_wp2_with fail
      refine hK.out _ _ ?_ (fun hHeld => ?_)
      · trivial
      clear hK K
      try simp only [Act.put, List.getElem_toArray, List.getElem_cons_succ, List.getElem_cons_zero]
      try simp only [List.setIfInBounds_toArray, List.set_cons_zero, List.set_cons_succ]
      refine wpAnyH_ready (rs := [4]) (by kernel_rfl) (by simp) ?_
      refine AllReadyH.cons rfl (fun K hK => ?_) AllReadyH.nil
      go_simp
      have HBE := Lib.hid (bytes_eq a7 a3 (headC (ersL es)) (X.take 32) 32 32 c7 c3 w7 HHL.out (by rw [HX34.out.2]; exact HHL.out) HI7.out (ints_below (HLO.out.lie.ints.take 32) HB7.out) (headC_inB _) (inB_take HXI.out 32))
      rw [HX34.out.2, eqB_self] at HBE
      refine HBE.out.mono ?_
      rintro e w9 ⟨rfl, rfl⟩
      dsimp only
      go_wp2_with fail
      refine hK.out _ _ ?_ (fun hHeld => ?_)
      · trivial
      clear hK K
      try simp only [Act.put, List.getElem_toArray, List.getElem_cons_succ, List.getElem_cons_zero]
      try simp only [List.setIfInBounds_toArray, List.set_cons_zero, List.set_cons_succ]
      refine take_at (i := 5) (d := 82) (v := ?_) rfl rfl (by kernel_rfl) (by kernel_rfl) (by kernel_rfl) (fun _ _ _ h => h) (Or.inl ⟨by rfl, by intro w' hSw; (try dsimp only at hSw); go_simp; try with_reducible rfl⟩) (by assumption) ?_
      simp only [List.setIfInBounds_toArray, List.set_cons_zero, List.set_cons_succ]
      refine wpAnyH_done (by kernel_rfl) ?_ _
      have HS7 := Lib.hid (HS.out.below HB7.out)
      have HLO7 := Lib.hid (HLO.out.below HB7.out)
      clear hHeld hs32 HCI HS HLO HI7
      by_cases hat0 : at' < 0
      · go_wp2_with fail
        refine (first22_any w7).mono ?_
        rintro e w8 ⟨rfl, hb8⟩
        have HS8 := Lib.hid (HS7.out.below hb8)
        clear hb8
        go_wp2
        go_ret
        exact ⟨rfl, HS8.out.bel⟩
      by_cases hat1 : (xn : Int) ≤ at'
      · go_wp2_with fail
        refine (first22_any w7).mono ?_
        rintro e w8 ⟨rfl, hb8⟩
        have HS8 := Lib.hid (HS7.out.below hb8)
        clear hb8
        go_wp2
        go_ret
        exact ⟨rfl, HS8.out.bel⟩
      by_cases htu : turn = 0
      · have hb : (turn == (0 : Int)) = true := by simp [htu]
        clear htu
        go_wp2_with fail
        refine (first22_any w7).mono ?_
        rintro e w8 ⟨rfl, hb8⟩
        have HS8 := Lib.hid (HS7.out.below hb8)
        clear hb8
        go_wp2
        go_ret
        exact ⟨rfl, HS8.out.bel⟩
      have hbt : (turn == (0 : Int)) = false := by simp [htu]
      clear htu
      obtain ⟨at2, rfl⟩ : ∃ n : Nat, at' = (n : Int) := ⟨at'.toNat, by omega⟩
      have HAL : Hid (at2 < xn) := Lib.hid (by omega)
      have HCB := Lib.hid (copyBytes a3 X xn c3 w7 HXN.out HLO7.out.lie.ints (by have := HXLL.out; omega))
      go_wp2_with fail
      with_reducible refine HCB.out.mono ?_
      rintro e w8 ⟨ca, cc, rfl, hr8⟩
      rw [HXN.out] at hr8 ⊢
      have HS8 := Lib.hid (HS7.out.below hr8.2.1)
      have HR8 : Hid (w8.ownsRow 0 5 1 (.slice ca xn cc) xn (X.map (Value.int .u8))) := Lib.hid (by have h := hr8.1; rw [HXN.out] at h; exact h)
      obtain ⟨cb, rfl⟩ := row_addr HR8.out (by have := HX34.out; omega)
      have HCN : Hid (w7.heap.size ≤ cb ∧ tb < w7.heap.size ∧ W.heap.size ≤ w7.heap.size) := Lib.hid ⟨hr8.2.2 cb rfl, HS7.out.lt, HS7.out.bel.size⟩
      obtain ⟨b1, b1f⟩ := row_cell HR8.out at2 HAL.out
      generalize X.getD at2 0 = z1 at *
      clear hr8 HCB hbt
      have e1 : at2 < xn := HAL.out
      have e2 : (at2 : Int) < (xn : Int) := by omega
      go_upto_region 23 with fail
      obtain ⟨V, hV⟩ : ∃ V, V = bits .xor .u8 z1 turn := ⟨_, rfl⟩
      have HVB : Hid (0 ≤ V ∧ V ≤ 255) := Lib.hid (by rw [hV]; have := xor_in8 z1 turn; omega)
      rw [← hV]
      obtain ⟨w9, hw9⟩ : ∃ w9, w9 = w8.setCell ⟨cb, at2, none⟩ (.int .u8 V) := ⟨_, rfl⟩
      rw [← hw9]
      obtain ⟨L', hL'⟩ : ∃ L', L' = X.set at2 V := ⟨_, rfl⟩
      have HR9 : Hid (w9.ownsRow 0 5 1 (.slice (some ⟨cb, 0, none⟩) xn cc) xn (L'.map (Value.int .u8))) := Lib.hid (by rw [hw9, hL']; exact row_set HR8.out at2 V)
      have HL' : Hid (L'.length = xn) := Lib.hid (by rw [hL', List.length_set, HXN.out])
      have HI' : Hid (InB L') := Lib.hid (by rw [hL']; exact inB_set HXI.out at2 HVB.out)
      have HK9 : Hid (Keeps (fun i => i = cb) w8 w9) := Lib.hid (by rw [hw9]; exact (Keeps.refl (fun i => i = cb) w8).setCell (p := ⟨cb, at2, none⟩) (Or.inl rfl) _)
      have HS9 : Hid (St W tb w9) := Lib.hid ⟨tab_keep HS8.out.tab HK9.out (by have := HCN.out; omega), below_fp HS8.out.bel HK9.out (fun i hi => by have := HCN.out; omega), HS8.out.own⟩
      have HOC : Hid (Own tb w9 (some ⟨cb, 0, none⟩) L' xn cc) := Lib.hid ⟨HR9.out, HL'.out, HI'.out, fun a ha e => by cases ha; have := HCN.out; dsimp only at e; omega⟩
      clear hV hw9 hL' b1 b1f e1 e2 HK9
      have HIM := Lib.hid (import_any tb (some ⟨cb, 0, none⟩) L' xn cc w9 HS9.out.tab HL'.out HOC.out.lie.ints HI'.out (Or.inr HOC.out.off) HOC.out.lie.cap HOC.out.lie.cm (by have := HXLL.out; omega))
      have HRI := Lib.hid (fun (wx : World) (g : IntsAt .u8 wx (some ⟨cb, 0, none⟩) L') => rimport_any (some ⟨cb, 0, none⟩) L' xn cc wx HL'.out g HI'.out HOC.out.lie.cap HOC.out.lie.cm (by have := HXLL.out; omega))
      unfold ImpPost at HIM
      unfold RImpPost at HRI
      generalize importF L' = Q2 at *
      obtain ⟨QL, qe⟩ := Q2
      dsimp only at HIM HRI
      go_wp2_with fail
      with_reducible refine HIM.out.mono ?_
      rintro e w10 ⟨a10, c10, u2, rfl, ht10, hk10, _, _, _, _⟩
      have HS10 := Lib.hid (HS9.out.step hk10 ht10)
      have HQ := Lib.hid (HRI.out w10 (HOC.out.step hk10).lie.ints)
      clear ht10 hk10 HIM HRI
      go_wp2_with fail
      with_reducible refine HQ.out.mono ?_
      rintro e w11 ⟨a11, c11, v2, rfl, hb11, _, _, _, _⟩
      have HS11 := Lib.hid (HS10.out.below hb11)
      clear hb11 HQ
      go_wp2_with fail
      refine (first22_any w11).mono ?_
      rintro e w12 ⟨rfl, hb12⟩
      have HS12 := Lib.hid (HS11.out.below hb12)
      clear hb12
      by_cases hqe : qe = 0
      · subst hqe
        have h1 : ((0 : Int) != 0) = false := rfl
        have h2 : ((0 : Int) == 0) = true := rfl
        go_wp2
        go_ret
        exact ⟨rfl, HS12.out.bel⟩
      · have h1 : (qe != 0) = true := by simp [hqe]
        clear hqe
        go_wp2
        go_ret
        exact ⟨rfl, HS12.out.bel⟩

theorem walk_chainBack (W : World) (ao : Option Addr) (es : List EV) (n c : Nat) (hn : es.length = n) (h : EntAt W ao es) (hcap : n ≤ c) (hcm : c ≤ maxLen) (at' : Int) (hat : (Lit.int .i64 at').wf = true) (turn : Int) (hturn : (Lit.int .u8 turn).wf = true) :
    Calls Try.prog 6 #[.slice ao n c, .int .i64 at', .int .u8 turn] W fun e w' => e = .returned (.bool true) ∧ Below W.heap.size W w' :=
  cback_core W ao es n c hn h hcap hcm at' turn (by simp [Lit.wf] at hturn; have e1 : IntKind.u8.min = 0 := rfl; have e2 : IntKind.u8.max = 255 := rfl; omega)

end Go.Proofs.Ytbhoakohpfdeoaa
