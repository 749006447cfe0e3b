/- NumParts is true for every input, and its arguments read behind the call as before; no condition. -/
import Derived.Test.YtnohdbhkepdjbaaPlain1
namespace Go.Proofs.Ytnohdbhkepdjbaa
open Go.ChangeShapes Go.WideShapes Go.ChangeAt Go.RowKit
set_option linter.unusedVariables false


theorem parts_facts (zs : List Int) (k : Nat) :
    (sumE zs = 0 ∧ sumE (zs.take k) = 0 ∧ sumE (zs.drop k) = 0 ∧ addE (sumV (zs.take k)) (sumV (zs.drop k)) = 0 ∧ addV (sumV (zs.take k)) (sumV (zs.drop k)) = sumV zs) ∨
    (sumE zs = 1 ∧ sumV zs = 0 ∧ (sumE (zs.take k) = 1 ∨ (sumE (zs.take k) = 0 ∧ sumE (zs.drop k) = 1) ∨ (sumE (zs.take k) = 0 ∧ sumE (zs.drop k) = 0 ∧ addE (sumV (zs.take k)) (sumV (zs.drop k)) = 1))) := by
  have hp := good_parts (zs.take k) (zs.drop k)
  rw [List.take_append_drop] at hp
  by_cases hg : goodB 0 zs = true
  · obtain ⟨h1, h2, h3⟩ := hp.1 hg
    obtain ⟨s1, s2⟩ := sumVE _ h1
    obtain ⟨s3, s4⟩ := sumVE _ h2
    obtain ⟨s5, s6⟩ := sumVE _ hg
    have e : zs.sum = (zs.take k).sum + (zs.drop k).sum := by rw [← List.sum_append, List.take_append_drop]
    refine Or.inl ⟨s6, s2, s4, ?_, ?_⟩
    · rw [s1, s3]; exact (addVE _ _ h3).2
    · rw [s1, s3, s5, e]; exact (addVE _ _ h3).1
  · have hg0 : goodB 0 zs = false := by simpa using hg
    obtain ⟨s5, s6⟩ := sumVE' _ hg0
    refine Or.inr ⟨s6, s5, ?_⟩
    by_cases h1 : goodB 0 (zs.take k) = true
    · obtain ⟨s1, s2⟩ := sumVE _ h1
      by_cases h2 : goodB 0 (zs.drop k) = true
      · obtain ⟨s3, s4⟩ := sumVE _ h2
        refine Or.inr (Or.inr ⟨s2, s4, ?_⟩)
        rw [s1, s3]
        refine (addVE' _ _ ?_).2
        rw [← Bool.not_eq_true]; exact fun h3 => hg (hp.2 ⟨h1, h2, h3⟩)
      · exact Or.inr (Or.inl ⟨s2, (sumVE' _ (by simpa using h2)).2⟩)
    · exact Or.inl (sumVE' _ (by simpa using h1)).2

set_option maxHeartbeats 1600000 in
theorem walk_numParts (W : World) (ao : Option Addr) (zs : List Int) (cap : Nat) (HI : IntsAt .i64 W ao zs) (hcap : zs.length ≤ cap) (wf : cap ≤ maxLen ∧ ∀ n ∈ zs, (Lit.int .i64 n).wf = true) (at_ : Int) (w1 : (Lit.int .i64 at_).wf = true) :
    Calls Try.prog 3 #[.slice ao zs.length cap, .int .i64 at_] W fun e w' => e = .returned (.bool true) ∧ Below W.heap.size W w' := by
  have hb0 := Below.refl W.heap.size W
  obtain ⟨hm, _⟩ := wf
  unfold maxLen at hm
  clear w1
  by_cases h1 : 200 < zs.length
  · have h1' : (200 : Int) < (zs.length : Int) := by omega
    go_enter Try.func3, Try.ntmps3
    go_wp2_with (first | (go_at_call 14; refine (first1 W _ (by assumption)).mono ?_; rintro e w1 ⟨rfl, hb⟩))
    all_goals go_ret
    all_goals exact ⟨ret_bool (by first | rfl | (simp; omega)), by assumption⟩
  · have h1' : ¬ (200 : Int) < (zs.length : Int) := by omega
    by_cases h2 : at_ < 0
    · go_enter Try.func3, Try.ntmps3
      go_wp2_with (first | (go_at_call 14; refine (first1 W _ (by assumption)).mono ?_; rintro e w1 ⟨rfl, hb⟩))
      all_goals go_ret
      all_goals exact ⟨ret_bool (by first | rfl | (simp; omega)), by assumption⟩
    · obtain ⟨k, rfl⟩ := Int.eq_ofNat_of_zero_le (Int.not_lt.1 h2)
      by_cases h3 : (zs.length : Int) < (k : Int)
      · go_enter Try.func3, Try.ntmps3
        go_wp2_with (first | (go_at_call 14; refine (first1 W _ (by assumption)).mono ?_; rintro e w1 ⟨rfl, hb⟩))
        all_goals go_ret
        all_goals exact ⟨ret_bool (by first | rfl | (simp; omega)), by assumption⟩
      · have HL1 : Hid ((zs.take k).length = k) := Lib.hid (by simp; omega)
        have HL2 : Hid ((zs.drop k).length = zs.length - k) := Lib.hid (by simp)
        have hk1 : (k : Int) ≤ (zs.length : Int) := by omega
        have hk2 : (k : Int) ≤ (cap : Int) := by omega
        have hk3 : (zs.length : Int) ≤ (cap : Int) := by omega
        clear h1 h2
        rcases parts_facts zs k with ⟨f1, f2, f3, f4, f5⟩ | ⟨f1, f2, f3 | ⟨f3, f4⟩ | ⟨f3, f4, f5⟩⟩
        all_goals
          go_enter Try.func3, Try.ntmps3
          go_wp2_with (first | (go_at_call 14; refine (first1 W _ (by assumption)).mono ?_; rintro e w1 ⟨rfl, hb⟩))
          refine (sum_len _ zs _ _ _ rfl (HI.below hb) (by omega)).mono ?_; rintro e w' ⟨rfl, rfl⟩
          go_wp2_with (first | (go_at_call 14; refine (first1 W _ (by assumption)).mono ?_; rintro e w1 ⟨rfl, hb⟩))
          refine (sum_len _ (zs.take k) _ _ _ HL1.out ((HI.below hb).take k) (by omega)).mono ?_; rintro e w' ⟨rfl, rfl⟩
          go_wp2_with (first | (go_at_call 14; refine (first1 W _ (by assumption)).mono ?_; rintro e w1 ⟨rfl, hb⟩))
          all_goals
            refine (sum_len _ (zs.drop k) _ _ _ HL2.out (by first | (refine Or.inl ?_; simp; omega) | exact (HI.below hb).dropAt k) (by omega)).mono ?_; rintro e w' ⟨rfl, rfl⟩
            go_wp2_with (first | (go_at_call 14; refine (first1 W _ (by assumption)).mono ?_; rintro e w1 ⟨rfl, hb⟩) | (go_at_call 16; refine (add_any _ _ _).mono ?_; rintro e w' ⟨rfl, rfl⟩))
            all_goals go_ret
            all_goals exact ⟨ret_bool (by first | rfl | (simp; omega)), by assumption⟩

/-! ### The row's step for NumParts: the frame. -/
theorem numParts_own : ownKnob Try.prog.godebug = none := by kernel_rfl
theorem numParts_laidOut : laidOutB Try.prog = true := by kernel_rfl
set_option maxRecDepth 100000 in
theorem numParts_lifted (os : Os) (started : os.Started) (H : Type) (enc : TypeId × Value → H) :
    ReturnsInHanded {} Try.checked os 3 .any (Rows.numPartsSpec.pre6 enc Try.prog Try.f3 Rows.numPartsRow.domain false) (Rows.numPartsSpec.post enc Try.prog Try.f3 false true false false) := by
  refine returnsInHanded_of_change (C := Try.checked) numParts_own started (by kernel_rfl) Try.func3
    (ChangeSpec.witness6 (enc := enc) (C := Try.checked) false ⟨#[], #[.slice none 0 0, .int .i64 0], []⟩ 8 (by kernel_rfl) (by kernel_rfl) (by kernel_rfl) (by kernel_rfl)) ?_
  intro W base args ds gs before hval0 hW hcnd _
  have hval : ∀ (j : Nat) t v, Try.f3.params[j]? = some t → args[j]? = some v → Value.okWide Try.prog W .any base t v := hval0
  have hW' := hW
  obtain ⟨p, q, hA0, hV, rfl, hfz, hnd⟩ := hW
  have hA : DataW.TrodAll enc Try.prog W 0 (fun _ => true) true Try.f3.params.toList args.toList ds p := hA0
  rw [Try.params3] at hA hval
  obtain ⟨v0, vs0, d0, ds0, p0, q0, hargs, rfl, rfl, h0, r0⟩ := trodAll_cons hA
  obtain ⟨v1, vs1, d1, ds1, p1, q1, rfl, rfl, rfl, h1, r1⟩ := trodAll_cons r0
  obtain ⟨rfl, rfl, rfl⟩ := trodAll_nil r1
  obtain rfl : args = #[v0, v1] := by cases args; simp_all
  obtain ⟨rfl, rfl⟩ := trodVars_none hV
  have k0 := h0
  have lt0 : ∀ x ∈ p0, x.block < W.heap.size := by obtain ⟨m, hm⟩ := k0; exact DataW.trod_lt m _ _ _ hm
  obtain ⟨ao0, len0, cap0, rfl⟩ := okWide_slice Try.underlying22 (hval 0 22 v0 rfl rfl)
  obtain ⟨z0, rfl, w0, hc0, wf0⟩ := ints_of Try.underlying22 Try.underlying3 (by kernel_rfl) h0
  have k1 := h1
  have lt1 : ∀ x ∈ p1, x.block < W.heap.size := by obtain ⟨m, hm⟩ := k1; exact DataW.trod_lt m _ _ _ hm
  obtain ⟨a1, rfl, rfl, rfl, w1⟩ := open_int Try.underlying3 (hval 1 3 v1 rfl rfl) h1
  clear hA0 hval0
  refine (walk_numParts W ao0 z0 cap0 w0 hc0 wf0 a1 w1).mono fun e W' ⟨he, bel⟩ => ?_
  subst he
  exact ⟨_, rfl, _, _, _, [], _, [], hW', trodAll_mk1 (shut_bool Try.underlying4 _), (trodAll_cons_mk (Below.trod numParts_laidOut (by kernel_rfl) (of_decide_eq_true (by kernel_rfl)) k0 bel lt0) (trodAll_cons_mk (Below.trod numParts_laidOut (by kernel_rfl) (of_decide_eq_true (by kernel_rfl)) k1 bel lt1) trodAll_mk0)), rfl, bel.frame _, fun h => by cases h⟩

theorem numParts_over : Rows.numPartsRow.holds Try.pinned (OpenSpec.ofChange Rows.numPartsSpec) :=
  OpenClaim.holds_of_wide 3 Try.f3 rfl rfl rfl rfl rfl rfl rfl ⟨rfl, rfl, rfl, rfl, rfl⟩ rfl rfl rfl rfl rfl (by kernel_rfl) Try.func3 (by kernel_rfl)
    (of_decide_eq_true (by kernel_rfl)) (by unfold Func.isWrapper; first | (rw [if_pos (by decide +kernel)]; kernel_rfl) | (rw [if_neg (by decide +kernel)]; exact ⟨rfl, rfl⟩))
    (fun os started H enc _ => numParts_lifted os started H enc)

/-- The statement. -/
theorem numParts_holds : Rows.NumPartsSaid := numParts_over
#print axioms numParts_holds
end Go.Proofs.Ytnohdbhkepdjbaa
