/- PurseBack is true for every input, and its arguments read behind the call as before; no condition. -/
import Derived.Test.YtadejcpifabpoaaPur7
namespace Go.Proofs.Ytadejcpifabpoaa
open Go.ChangeShapes Go.WideShapes Go.ChangeAt Go.RowKit
set_option linter.unusedVariables false

theorem takeN_no {n m : Nat} {b : Nat → Nat → Int} {a j x : Int} (h : takeE n m b a j x ≠ 0) : takeN n m b a j x = b := by simp [takeN, h]
theorem moveN_no {n m : Nat} {b : Nat → Nat → Int} {f t j x : Int} (h : moveE n m b f t j x ≠ 0) : moveN n m b f t j x = b := by simp [moveN, h]

set_option maxRecDepth 100000 in
set_option maxHeartbeats 4000000 in
theorem walk_purseBack (W : World) (ao : Option Addr) (bs : List ISl) (n cap : Nat) (hn : bs.length = n) (h : IntsList W ao bs) (hcap : n ≤ cap) (hcm : cap ≤ maxLen) (a : Int) (wa : (Lit.int .i64 a).wf = true) (b : Int) (wb : (Lit.int .i64 b).wf = true) (asset : Int) (ws : (Lit.int .i64 asset).wf = true) (x : Int) (wx : (Lit.int .i64 x).wf = true) :
    Calls Try.prog 6 #[.slice ao n cap, .int .i64 a, .int .i64 b, .int .i64 asset, .int .i64 x] W fun e w' => e = .returned (.bool true) ∧ Below W.heap.size W w' := by
  have hb0 := Lib.hid (Below.refl W.heap.size W)
  have HI := Lib.hid h
  have HN := Lib.hid hn
  clear h hn wa wb ws wx
  cases hf : fewB (bs.map (fun o => o.zs.length)) 100 1000
  · have HF := Lib.hid hf
    clear hf
    go_enter Try.func6, Try.ntmps6
    go_wp2_with fail
    refine (first9 W _ hb0.out).mono ?_
    rintro e w1 ⟨rfl, hb1⟩
    have HB1 := Lib.hid hb1
    clear hb1
    go_wp2_with fail
    refine (few9_any ao bs n cap w1 HN.out (HI.out.below HB1.out) hcap hcm).mono ?_
    rintro e w2 ⟨rfl, rfl⟩
    rw [HF.out]
    go_wp2_with fail
    refine (first9 W _ HB1.out).mono ?_
    rintro e w2 ⟨rfl, hb2⟩
    have HB2 := Lib.hid hb2
    clear hb2
    go_wp2
    go_ret
    exact ⟨rfl, HB2.out⟩
  · have HF := Lib.hid hf
    clear hf
    cases hm : mayF bs
    · have HM := Lib.hid hm
      clear hm
      go_enter Try.func6, Try.ntmps6
      go_wp2_with fail
      refine (first9 W _ hb0.out).mono ?_
      rintro e w1 ⟨rfl, hb1⟩
      have HB1 := Lib.hid hb1
      clear hb1
      go_wp2_with fail
      refine (few9_any ao bs n cap w1 HN.out (HI.out.below HB1.out) hcap hcm).mono ?_
      rintro e w2 ⟨rfl, rfl⟩
      rw [HF.out]
      go_wp2_with fail
      refine (new_no ao bs n cap w1 HN.out (HI.out.below HB1.out) HM.out).mono ?_
      rintro e w2 ⟨rfl, hb2⟩
      have HB2 := Lib.hid (HB1.out.trans (hb2.mono HB1.out.size))
      clear hb2
      go_wp2_with fail
      refine (first9 W _ HB2.out).mono ?_
      rintro e w3 ⟨rfl, hb3⟩
      have HB3 := Lib.hid hb3
      clear hb3
      go_wp2
      go_ret
      exact ⟨rfl, HB3.out⟩
    · have HM := Lib.hid hm
      obtain ⟨hg, _⟩ := mayF_good hm
      rw [HN.out] at hg
      obtain ⟨m, hmm⟩ : ∃ m, m = (bs.getD 0 default).zs.length := ⟨_, rfl⟩
      rw [← hmm] at hg
      have HMM := Lib.hid hmm.symm
      have HG := Lib.hid hg
      have HNEW := fun w1 h1 => Lib.hid (new_yes ao bs n cap m w1 HN.out h1 HM.out HMM.out)
      clear hm hmm
      generalize balOf bs = B at *
      have HX100 := Lib.hid (show getB n m B 100 0 = 0 by (have := hg.n16); simp [getB, hasB]; omega)
      have HGN := Lib.hid (show giveE n m B (-1) 0 0 = 1 ∧ giveN n m B (-1) 0 0 = B by simp [giveE, giveN, giveOK, hasB])
      obtain ⟨X, hX⟩ : ∃ X, X = getB n m B a asset := ⟨_, rfl⟩
      obtain ⟨Y, hY⟩ : ∃ Y, Y = getB n m B b asset := ⟨_, rfl⟩
      have HX := Lib.hid hX.symm
      have HY := Lib.hid hY.symm
      obtain ⟨ET, hET⟩ : ∃ E, E = takeE n m B a asset x := ⟨_, rfl⟩
      obtain ⟨EM, hEM⟩ : ∃ E, E = moveE n m B a b asset x := ⟨_, rfl⟩
      have HET := Lib.hid hET.symm
      have HEM := Lib.hid hEM.symm
      have HT : Hid (ET = 0 → getB n m (takeN n m B a asset x) a asset = X - x ∧ giveE n m (takeN n m B a asset x) a asset x = 0 ∧ giveN n m (takeN n m B a asset x) a asset x = B ∧ (0 ≤ x ∧ x ≤ X ∧ X ≤ 4611686018427387904)) := Lib.hid (by
        intro h0; rw [hX]; exact take_back hg (hET ▸ h0))
      have HT' : Hid (ET ≠ 0 → takeN n m B a asset x = B) := Lib.hid (fun h0 => takeN_no (hET ▸ h0))
      have HV : Hid (EM = 0 → getB n m (moveN n m B a b asset x) a asset = X - x ∧ getB n m (moveN n m B a b asset x) b asset = Y + x ∧ moveE n m (moveN n m B a b asset x) b a asset x = 0 ∧ moveN n m (moveN n m B a b asset x) b a asset x = B ∧ (0 ≤ x ∧ x ≤ X ∧ X ≤ 4611686018427387904) ∧ (0 ≤ Y ∧ Y + x ≤ 4611686018427387904) ∧ a ≠ b) := Lib.hid (by
        intro h0; rw [hX, hY]; exact move_back hg (hEM ▸ h0))
      have HV' : Hid (EM ≠ 0 → moveN n m B a b asset x = B) := Lib.hid (fun h0 => moveN_no (hEM ▸ h0))
      have HGT := Lib.hid (hg.take a asset x)
      have HGM := Lib.hid (hg.move a b asset x)
      clear hX hY hET hEM hg
      by_cases h0 : ET = 0
      · subst h0
        obtain ⟨t1, t2, t3, x0, x1, x2⟩ := HT.out rfl
        have T1 := Lib.hid t1
        have T2 := Lib.hid t2
        have T3 := Lib.hid t3
        clear t1 t2 t3 HT HT'
        go_enter Try.func6, Try.ntmps6
        go_wp2_with fail
        refine (first9 W _ hb0.out).mono ?_
        rintro e w1 ⟨rfl, hb1⟩
        have HB1 := Lib.hid hb1
        have HNW := HNEW w1 (HI.out.below hb1)
        clear hb1 HNEW
        go_wp2_with fail
        refine (few9_any ao bs n cap w1 HN.out (HI.out.below HB1.out) hcap hcm).mono ?_
        rintro e w2 ⟨rfl, rfl⟩
        rw [HF.out]
        go_wp2_with fail
        refine HNW.out.mono ?_
        rintro e w2 ⟨q, rfl, hq⟩
        have HL := Lib.hid (LP.new hq HB1.out)
        clear hq HNW
        go_wp2_with fail
        refine (HL.out.has a asset).mono ?_
        rintro e w' ⟨rfl, rfl⟩
        rw [HX.out]
        go_wp2_with fail
        refine (HL.out.has b asset).mono ?_
        rintro e w' ⟨rfl, rfl⟩
        rw [HY.out]
        go_wp2_with fail
        refine (HL.out.take HG.out a asset x).mono ?_
        rintro e w3 ⟨rfl, hl3⟩
        rw [HET.out]
        have HL3 := Lib.hid hl3
        clear hl3
        go_wp2_with fail
        refine (HL3.out.has a asset).mono ?_
        rintro e w' ⟨rfl, rfl⟩
        rw [T1.out]
        go_wp2_with fail
        refine (HL3.out.give HGT.out a asset x).mono ?_
        rintro e w4 ⟨rfl, hl4⟩
        rw [T2.out]
        rw [T3.out] at hl4
        have HL4 := Lib.hid hl4
        clear hl4
        by_cases h1 : EM = 0
        · subst h1
          obtain ⟨v1, v2, v3, v4, ⟨x3, x4, x5⟩, ⟨y1, y2⟩, hab⟩ := HV.out rfl
          have V1 := Lib.hid v1
          have V2 := Lib.hid v2
          have V3 := Lib.hid v3
          have V4 := Lib.hid v4
          have hab' : (a != b) = true := by simpa using hab
          clear v1 v2 v3 v4 HV HV' hab
          go_wp2_with fail
          refine (HL4.out.move HG.out a b asset x).mono ?_
          rintro e w5 ⟨rfl, hl5⟩
          rw [HEM.out]
          have HL5 := Lib.hid hl5
          clear hl5
          go_wp2_with fail
          refine (HL5.out.has a asset).mono ?_
          rintro e w' ⟨rfl, rfl⟩
          rw [V1.out]
          go_wp2_with fail
          refine (HL5.out.has b asset).mono ?_
          rintro e w' ⟨rfl, rfl⟩
          rw [V2.out]
          go_wp2_with fail
          refine (HL5.out.move HGM.out b a asset x).mono ?_
          rintro e w7 ⟨rfl, hl7⟩
          rw [V3.out]
          rw [V4.out] at hl7
          have HL7 := Lib.hid hl7
          clear hl7
          go_wp2_with fail
          refine (first9_any w7).mono ?_
          rintro e w8 ⟨rfl, hb8⟩
          have HL8 := Lib.hid (HL7.out.below hb8)
          clear hb8
          go_wp2_with fail
          refine (HL8.out.has a asset).mono ?_
          rintro e w' ⟨rfl, rfl⟩
          rw [HX.out]
          go_wp2_with fail
          refine (HL8.out.has b asset).mono ?_
          rintro e w' ⟨rfl, rfl⟩
          rw [HY.out]
          go_wp2_with fail
          refine (HL8.out.give HG.out (-1) 0 0).mono ?_
          rintro e w9 ⟨rfl, hl9⟩
          rw [HGN.out.1]
          rw [HGN.out.2] at hl9
          have HL9 := Lib.hid hl9
          clear hl9
          go_wp2_with fail
          refine (HL9.out.has 100 0).mono ?_
          rintro e w' ⟨rfl, rfl⟩
          rw [HX100.out]
          go_wp2
          go_ret
          exact ⟨rfl, HL9.out.base⟩
        · have hE1 : (EM == 0) = false := by simpa using h1
          have hE2 : (EM != 0) = true := by simpa using h1
          have V4 := Lib.hid (HV'.out h1)
          clear h1 HV HV'
          go_wp2_with fail
          refine (HL4.out.move HG.out a b asset x).mono ?_
          rintro e w7 ⟨rfl, hl7⟩
          rw [HEM.out]
          rw [V4.out] at hl7
          have HL7 := Lib.hid hl7
          clear hl7
          go_wp2_with fail
          refine (first9_any w7).mono ?_
          rintro e w8 ⟨rfl, hb8⟩
          have HL8 := Lib.hid (HL7.out.below hb8)
          clear hb8
          go_wp2_with fail
          refine (HL8.out.has a asset).mono ?_
          rintro e w' ⟨rfl, rfl⟩
          rw [HX.out]
          go_wp2_with fail
          refine (HL8.out.has b asset).mono ?_
          rintro e w' ⟨rfl, rfl⟩
          rw [HY.out]
          go_wp2_with fail
          refine (HL8.out.give HG.out (-1) 0 0).mono ?_
          rintro e w9 ⟨rfl, hl9⟩
          rw [HGN.out.1]
          rw [HGN.out.2] at hl9
          have HL9 := Lib.hid hl9
          clear hl9
          go_wp2_with fail
          refine (HL9.out.has 100 0).mono ?_
          rintro e w' ⟨rfl, rfl⟩
          rw [HX100.out]
          go_wp2
          go_ret
          exact ⟨rfl, HL9.out.base⟩
      · have hE0 : (ET == 0) = false := by simpa using h0
        have T3 := Lib.hid (HT'.out h0)
        clear h0 HT HT'
        go_enter Try.func6, Try.ntmps6
        go_wp2_with fail
        refine (first9 W _ hb0.out).mono ?_
        rintro e w1 ⟨rfl, hb1⟩
        have HB1 := Lib.hid hb1
        have HNW := HNEW w1 (HI.out.below hb1)
        clear hb1 HNEW
        go_wp2_with fail
        refine (few9_any ao bs n cap w1 HN.out (HI.out.below HB1.out) hcap hcm).mono ?_
        rintro e w2 ⟨rfl, rfl⟩
        rw [HF.out]
        go_wp2_with fail
        refine HNW.out.mono ?_
        rintro e w2 ⟨q, rfl, hq⟩
        have HL := Lib.hid (LP.new hq HB1.out)
        clear hq HNW
        go_wp2_with fail
        refine (HL.out.has a asset).mono ?_
        rintro e w' ⟨rfl, rfl⟩
        rw [HX.out]
        go_wp2_with fail
        refine (HL.out.has b asset).mono ?_
        rintro e w' ⟨rfl, rfl⟩
        rw [HY.out]
        go_wp2_with fail
        refine (HL.out.take HG.out a asset x).mono ?_
        rintro e w4 ⟨rfl, hl4⟩
        rw [HET.out]
        rw [T3.out] at hl4
        have HL4 := Lib.hid hl4
        clear hl4
        by_cases h1 : EM = 0
        · subst h1
          obtain ⟨v1, v2, v3, v4, ⟨x3, x4, x5⟩, ⟨y1, y2⟩, hab⟩ := HV.out rfl
          have V1 := Lib.hid v1
          have V2 := Lib.hid v2
          have V3 := Lib.hid v3
          have V4 := Lib.hid v4
          have hab' : (a != b) = true := by simpa using hab
          clear v1 v2 v3 v4 HV HV' hab
          go_wp2_with fail
          refine (HL4.out.move HG.out a b asset x).mono ?_
          rintro e w5 ⟨rfl, hl5⟩
          rw [HEM.out]
          have HL5 := Lib.hid hl5
          clear hl5
          go_wp2_with fail
          refine (HL5.out.has a asset).mono ?_
          rintro e w' ⟨rfl, rfl⟩
          rw [V1.out]
          go_wp2_with fail
          refine (HL5.out.has b asset).mono ?_
          rintro e w' ⟨rfl, rfl⟩
          rw [V2.out]
          go_wp2_with fail
          refine (HL5.out.move HGM.out b a asset x).mono ?_
          rintro e w7 ⟨rfl, hl7⟩
          rw [V3.out]
          rw [V4.out] at hl7
          have HL7 := Lib.hid hl7
          clear hl7
          go_wp2_with fail
          refine (first9_any w7).mono ?_
          rintro e w8 ⟨rfl, hb8⟩
          have HL8 := Lib.hid (HL7.out.below hb8)
          clear hb8
          go_wp2_with fail
          refine (HL8.out.has a asset).mono ?_
          rintro e w' ⟨rfl, rfl⟩
          rw [HX.out]
          go_wp2_with fail
          refine (HL8.out.has b asset).mono ?_
          rintro e w' ⟨rfl, rfl⟩
          rw [HY.out]
          go_wp2_with fail
          refine (HL8.out.give HG.out (-1) 0 0).mono ?_
          rintro e w9 ⟨rfl, hl9⟩
          rw [HGN.out.1]
          rw [HGN.out.2] at hl9
          have HL9 := Lib.hid hl9
          clear hl9
          go_wp2_with fail
          refine (HL9.out.has 100 0).mono ?_
          rintro e w' ⟨rfl, rfl⟩
          rw [HX100.out]
          go_wp2
          go_ret
          exact ⟨rfl, HL9.out.base⟩
        · have hE1 : (EM == 0) = false := by simpa using h1
          have hE2 : (EM != 0) = true := by simpa using h1
          have V4 := Lib.hid (HV'.out h1)
          clear h1 HV HV'
          go_wp2_with fail
          refine (HL4.out.move HG.out a b asset x).mono ?_
          rintro e w7 ⟨rfl, hl7⟩
          rw [HEM.out]
          rw [V4.out] at hl7
          have HL7 := Lib.hid hl7
          clear hl7
          go_wp2_with fail
          refine (first9_any w7).mono ?_
          rintro e w8 ⟨rfl, hb8⟩
          have HL8 := Lib.hid (HL7.out.below hb8)
          clear hb8
          go_wp2_with fail
          refine (HL8.out.has a asset).mono ?_
          rintro e w' ⟨rfl, rfl⟩
          rw [HX.out]
          go_wp2_with fail
          refine (HL8.out.has b asset).mono ?_
          rintro e w' ⟨rfl, rfl⟩
          rw [HY.out]
          go_wp2_with fail
          refine (HL8.out.give HG.out (-1) 0 0).mono ?_
          rintro e w9 ⟨rfl, hl9⟩
          rw [HGN.out.1]
          rw [HGN.out.2] at hl9
          have HL9 := Lib.hid hl9
          clear hl9
          go_wp2_with fail
          refine (HL9.out.has 100 0).mono ?_
          rintro e w' ⟨rfl, rfl⟩
          rw [HX100.out]
          go_wp2
          go_ret
          exact ⟨rfl, HL9.out.base⟩

/-! ### The row's step for PurseBack: the frame. -/
theorem purseBack_own : ownKnob Try.prog.godebug = none := by kernel_rfl
theorem purseBack_laidOut : laidOutB Try.prog = true := by kernel_rfl
set_option maxRecDepth 100000 in
theorem purseBack_lifted (os : Os) (started : os.Started) (H : Type) (enc : TypeId × Value → H) :
    ReturnsInHanded {} Try.checked os 6 .any (Rows.purseBackSpec.pre6 enc Try.prog Try.f6 Rows.purseBackRow.domain false) (Rows.purseBackSpec.post enc Try.prog Try.f6 false true false false) := by
  refine returnsInHanded_of_change (C := Try.checked) purseBack_own started (by kernel_rfl) Try.func6
    (ChangeSpec.witness6 (enc := enc) (C := Try.checked) false ⟨#[], #[.slice none 0 0, .int .i64 0, .int .i64 0, .int .i64 0, .int .i64 0], []⟩ 8 (by kernel_rfl) (by kernel_rfl) (by kernel_rfl) (by kernel_rfl)) ?_
  intro W base args ds gs before hval0 hW hcnd _
  have hval : ∀ (j : Nat) t v, Try.f6.params[j]? = some t → args[j]? = some v → Value.okWide Try.prog W .any base t v := hval0
  have hW' := hW
  obtain ⟨p, q, hA0, hV, rfl, hfz, hnd⟩ := hW
  have hA : DataW.TrodAll enc Try.prog W 0 (fun _ => true) true Try.f6.params.toList args.toList ds p := hA0
  rw [Try.params6] at hA hval
  obtain ⟨v0, vs0, d0, ds0, p0, q0, hargs, rfl, rfl, h0, r0⟩ := trodAll_cons hA
  obtain ⟨v1, vs1, d1, ds1, p1, q1, rfl, rfl, rfl, h1, r1⟩ := trodAll_cons r0
  obtain ⟨v2, vs2, d2, ds2, p2, q2, rfl, rfl, rfl, h2, r2⟩ := trodAll_cons r1
  obtain ⟨v3, vs3, d3, ds3, p3, q3, rfl, rfl, rfl, h3, r3⟩ := trodAll_cons r2
  obtain ⟨v4, vs4, d4, ds4, p4, q4, rfl, rfl, rfl, h4, r4⟩ := trodAll_cons r3
  obtain ⟨rfl, rfl, rfl⟩ := trodAll_nil r4
  obtain rfl : args = #[v0, v1, v2, v3, v4] := by cases args; simp_all
  obtain ⟨rfl, rfl⟩ := trodVars_none hV
  have k0 := h0
  have lt0 : ∀ x ∈ p0, x.block < W.heap.size := by obtain ⟨m, hm⟩ := k0; exact DataW.trod_lt m _ _ _ hm
  obtain ⟨ao0, len0, cap0, rfl⟩ := okWide_slice Try.underlying22 (hval 0 22 v0 rfl rfl)
  obtain ⟨z0, hl0, w0, hc0, wf0⟩ := ilists_of Try.underlying22 (by kernel_rfl) Try.underlying31 Try.underlying3 (by kernel_rfl) h0
  have k1 := h1
  have lt1 : ∀ x ∈ p1, x.block < W.heap.size := by obtain ⟨m, hm⟩ := k1; exact DataW.trod_lt m _ _ _ hm
  obtain ⟨a1, rfl, rfl, rfl, w1⟩ := open_int Try.underlying3 (hval 1 3 v1 rfl rfl) h1
  have k2 := h2
  have lt2 : ∀ x ∈ p2, x.block < W.heap.size := by obtain ⟨m, hm⟩ := k2; exact DataW.trod_lt m _ _ _ hm
  obtain ⟨a2, rfl, rfl, rfl, w2⟩ := open_int Try.underlying3 (hval 2 3 v2 rfl rfl) h2
  have k3 := h3
  have lt3 : ∀ x ∈ p3, x.block < W.heap.size := by obtain ⟨m, hm⟩ := k3; exact DataW.trod_lt m _ _ _ hm
  obtain ⟨a3, rfl, rfl, rfl, w3⟩ := open_int Try.underlying3 (hval 3 3 v3 rfl rfl) h3
  have k4 := h4
  have lt4 : ∀ x ∈ p4, x.block < W.heap.size := by obtain ⟨m, hm⟩ := k4; exact DataW.trod_lt m _ _ _ hm
  obtain ⟨a4, rfl, rfl, rfl, w4⟩ := open_int Try.underlying3 (hval 4 3 v4 rfl rfl) h4
  clear hA0 hval0
  refine (walk_purseBack W ao0 z0 len0 cap0 hl0.symm w0 hc0 wf0 a1 w1 a2 w2 a3 w3 a4 w4).mono fun e W' ⟨he, bel⟩ => ?_
  subst he
  exact ⟨_, rfl, _, _, _, [], _, [], hW', trodAll_mk1 (shut_bool Try.underlying4 _), (trodAll_cons_mk (Below.trod purseBack_laidOut (by kernel_rfl) (of_decide_eq_true (by kernel_rfl)) k0 bel lt0) (trodAll_cons_mk (Below.trod purseBack_laidOut (by kernel_rfl) (of_decide_eq_true (by kernel_rfl)) k1 bel lt1) (trodAll_cons_mk (Below.trod purseBack_laidOut (by kernel_rfl) (of_decide_eq_true (by kernel_rfl)) k2 bel lt2) (trodAll_cons_mk (Below.trod purseBack_laidOut (by kernel_rfl) (of_decide_eq_true (by kernel_rfl)) k3 bel lt3) (trodAll_cons_mk (Below.trod purseBack_laidOut (by kernel_rfl) (of_decide_eq_true (by kernel_rfl)) k4 bel lt4) trodAll_mk0))))), rfl, bel.frame _, fun h => by cases h⟩

theorem purseBack_over : Rows.purseBackRow.holds Try.pinned (OpenSpec.ofChange Rows.purseBackSpec) :=
  OpenClaim.holds_of_wide 6 Try.f6 rfl rfl rfl rfl rfl rfl rfl ⟨rfl, rfl, rfl, rfl, rfl⟩ rfl rfl rfl rfl rfl (by kernel_rfl) Try.func6 (by kernel_rfl)
    (of_decide_eq_true (by kernel_rfl)) (by unfold Func.isWrapper; first | (rw [if_pos (by decide +kernel)]; kernel_rfl) | (rw [if_neg (by decide +kernel)]; exact ⟨rfl, rfl⟩))
    (fun os started H enc _ => purseBack_lifted os started H enc)

/-- The statement. -/
theorem purseBack_holds : Rows.PurseBackSaid := purseBack_over
#print axioms purseBack_holds
end Go.Proofs.Ytadejcpifabpoaa
