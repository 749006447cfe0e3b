/- NumTicks is true for every input, and its arguments read behind the call as before; no condition. -/
import Derived.Test.YtnohdbhkepdjbaaLaw1
namespace Go.Proofs.Ytnohdbhkepdjbaa
open Go.ChangeShapes Go.WideShapes Go.ChangeAt Go.RowKit
set_option linter.unusedVariables false

set_option maxHeartbeats 400000 in
theorem walk_numTicks (t : Int) (w0 : (Lit.int .i64 t).wf = true) (d : Int) (w1 : (Lit.int .i64 d).wf = true) (W : World) :
    Calls Try.prog 4 #[.int .i64 t, .int .i64 d] W fun e w' => e = .returned (.bool true) ∧ Below W.heap.size W w' := by
  have hb0 := Below.refl W.heap.size W
  clear w0 w1
  by_cases ht : tickB t = true
  · by_cases hd : tickB d = true
    · have hT := (tick_iff t).1 ht
      have hD := (tick_iff d).1 hd
      unfold MT at hT hD
      obtain ⟨hT1, hT2⟩ := hT
      obtain ⟨hD1, hD2⟩ := hD
      by_cases hs : tickB (t + d) = true
      · obtain ⟨v1, v2⟩ := aftVE t d (by simp [aftOK, ht, hd, hs])
        have q : (t + d - t == d) = true := by simp; omega
        go_enter Try.func4, Try.ntmps4
        go_wp2_with (first | (go_at_call 14; refine (first1 W _ (by assumption)).mono ?_; rintro e w1 ⟨rfl, hb⟩) | (go_at_call 17; refine (after_any _ _ _).mono ?_; rintro e w' ⟨rfl, rfl⟩) | (go_at_call 18; refine (tick_any _ _).mono ?_; rintro e w' ⟨rfl, rfl⟩))
        all_goals go_ret
        all_goals exact ⟨ret_bool (by first | rfl | (simp; omega)), by assumption⟩
      · have hs' : ¬ (0 ≤ t + d ∧ t + d ≤ MT) := fun h => hs ((tick_iff _).2 h)
        unfold MT at hs'
        simp at hs
        obtain ⟨v1, v2⟩ := aftVE' t d (by simp [aftOK, ht, hd, hs])
        have q : 1099511627776 - d < t := by omega
        clear hs'
        go_enter Try.func4, Try.ntmps4
        go_wp2_with (first | (go_at_call 14; refine (first1 W _ (by assumption)).mono ?_; rintro e w1 ⟨rfl, hb⟩) | (go_at_call 17; refine (after_any _ _ _).mono ?_; rintro e w' ⟨rfl, rfl⟩) | (go_at_call 18; refine (tick_any _ _).mono ?_; rintro e w' ⟨rfl, rfl⟩))
        all_goals go_ret
        all_goals exact ⟨ret_bool (by first | rfl | (simp; omega)), by assumption⟩
    · simp at hd
      obtain ⟨v1, v2⟩ := aftVE' t d (by simp [aftOK, hd])
      go_enter Try.func4, Try.ntmps4
      go_wp2_with (first | (go_at_call 14; refine (first1 W _ (by assumption)).mono ?_; rintro e w1 ⟨rfl, hb⟩) | (go_at_call 17; refine (after_any _ _ _).mono ?_; rintro e w' ⟨rfl, rfl⟩) | (go_at_call 18; refine (tick_any _ _).mono ?_; rintro e w' ⟨rfl, rfl⟩))
      all_goals go_ret
      all_goals exact ⟨rfl, by assumption⟩
  · simp at ht
    obtain ⟨v1, v2⟩ := aftVE' t d (by simp [aftOK, ht])
    go_enter Try.func4, Try.ntmps4
    go_wp2_with (first | (go_at_call 14; refine (first1 W _ (by assumption)).mono ?_; rintro e w1 ⟨rfl, hb⟩) | (go_at_call 17; refine (after_any _ _ _).mono ?_; rintro e w' ⟨rfl, rfl⟩) | (go_at_call 18; refine (tick_any _ _).mono ?_; rintro e w' ⟨rfl, rfl⟩))
    all_goals go_ret
    all_goals exact ⟨rfl, by assumption⟩

/-! ### The row's step for NumTicks: the frame. -/
theorem numTicks_own : ownKnob Try.prog.godebug = none := by kernel_rfl
theorem numTicks_laidOut : laidOutB Try.prog = true := by kernel_rfl
set_option maxRecDepth 100000 in
theorem numTicks_lifted (os : Os) (started : os.Started) (H : Type) (enc : TypeId × Value → H) :
    ReturnsInHanded {} Try.checked os 4 .any (Rows.numTicksSpec.pre6 enc Try.prog Try.f4 Rows.numTicksRow.domain false) (Rows.numTicksSpec.post enc Try.prog Try.f4 false true false false) := by
  refine returnsInHanded_of_change (C := Try.checked) numTicks_own started (by kernel_rfl) Try.func4
    (ChangeSpec.witness6 (enc := enc) (C := Try.checked) false ⟨#[], #[.int .i64 0, .int .i64 0], []⟩ 8 (by kernel_rfl) (by kernel_rfl) (by kernel_rfl) (by kernel_rfl)) ?_
  intro W base args ds gs before hval0 hW hcnd _
  have hval : ∀ (j : Nat) t v, Try.f4.params[j]? = some t → args[j]? = some v → Value.okWide Try.prog W .any base t v := hval0
  have hW' := hW
  obtain ⟨p, q, hA0, hV, rfl, hfz, hnd⟩ := hW
  have hA : DataW.TrodAll enc Try.prog W 0 (fun _ => true) true Try.f4.params.toList args.toList ds p := hA0
  rw [Try.params4] at hA hval
  obtain ⟨v0, vs0, d0, ds0, p0, q0, hargs, rfl, rfl, h0, r0⟩ := trodAll_cons hA
  obtain ⟨v1, vs1, d1, ds1, p1, q1, rfl, rfl, rfl, h1, r1⟩ := trodAll_cons r0
  obtain ⟨rfl, rfl, rfl⟩ := trodAll_nil r1
  obtain rfl : args = #[v0, v1] := by cases args; simp_all
  obtain ⟨rfl, rfl⟩ := trodVars_none hV
  have k0 := h0
  have lt0 : ∀ x ∈ p0, x.block < W.heap.size := by obtain ⟨m, hm⟩ := k0; exact DataW.trod_lt m _ _ _ hm
  obtain ⟨a0, rfl, rfl, rfl, w0⟩ := open_int Try.underlying3 (hval 0 3 v0 rfl rfl) h0
  have k1 := h1
  have lt1 : ∀ x ∈ p1, x.block < W.heap.size := by obtain ⟨m, hm⟩ := k1; exact DataW.trod_lt m _ _ _ hm
  obtain ⟨a1, rfl, rfl, rfl, w1⟩ := open_int Try.underlying3 (hval 1 3 v1 rfl rfl) h1
  clear hA0 hval0
  refine (walk_numTicks a0 w0 a1 w1 W).mono fun e W' ⟨he, bel⟩ => ?_
  subst he
  exact ⟨_, rfl, _, _, _, [], _, [], hW', trodAll_mk1 (shut_bool Try.underlying4 _), (trodAll_cons_mk (Below.trod numTicks_laidOut (by kernel_rfl) (of_decide_eq_true (by kernel_rfl)) k0 bel lt0) (trodAll_cons_mk (Below.trod numTicks_laidOut (by kernel_rfl) (of_decide_eq_true (by kernel_rfl)) k1 bel lt1) trodAll_mk0)), rfl, bel.frame _, fun h => by cases h⟩

theorem numTicks_over : Rows.numTicksRow.holds Try.pinned (OpenSpec.ofChange Rows.numTicksSpec) :=
  OpenClaim.holds_of_wide 4 Try.f4 rfl rfl rfl rfl rfl rfl rfl ⟨rfl, rfl, rfl, rfl, rfl⟩ rfl rfl rfl rfl rfl (by kernel_rfl) Try.func4 (by kernel_rfl)
    (of_decide_eq_true (by kernel_rfl)) (by unfold Func.isWrapper; first | (rw [if_pos (by decide +kernel)]; kernel_rfl) | (rw [if_neg (by decide +kernel)]; exact ⟨rfl, rfl⟩))
    (fun os started H enc _ => numTicks_lifted os started H enc)

/-- The statement. -/
theorem numTicks_holds : Rows.NumTicksSaid := numTicks_over
#print axioms numTicks_holds
end Go.Proofs.Ytnohdbhkepdjbaa
