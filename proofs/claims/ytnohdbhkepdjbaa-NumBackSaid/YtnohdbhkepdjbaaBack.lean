/- NumBack is true for every input, and its arguments read behind the call as before; no condition. -/
import Derived.Test.YtnohdbhkepdjbaaLaw1
namespace Go.Proofs.Ytnohdbhkepdjbaa
open Go.ChangeShapes Go.WideShapes Go.ChangeAt Go.RowKit
set_option linter.unusedVariables false

set_option maxHeartbeats 800000 in
theorem walk_numBack (a : Int) (w0 : (Lit.int .i64 a).wf = true) (b : Int) (w1 : (Lit.int .i64 b).wf = true) (W : World) :
    Calls Try.prog 6 #[.int .i64 a, .int .i64 b] W fun e w' => e = .returned (.bool true) ∧ Below W.heap.size W w' := by
  have hb0 := Below.refl W.heap.size W
  clear w0 w1
  by_cases ha : addOK a b = true
  · have h' := ha
    simp only [addOK, bothB, Bool.and_eq_true] at h'
    obtain ⟨⟨hA, hB⟩, hC⟩ := h'
    have ha2 : addOK b a = true := by simp only [addOK, bothB, Bool.and_eq_true]; exact ⟨⟨hB, hA⟩, by rw [Int.add_comm]; exact hC⟩
    obtain ⟨a1, a2⟩ := addVE a b ha
    obtain ⟨a3, a4⟩ := addVE b a ha2
    rw [Int.add_comm] at a3
    have hA' := (amt_iff a).1 hA
    have hB' := (amt_iff b).1 hB
    obtain ⟨hA1, hA2⟩ := hA'
    obtain ⟨hB1, hB2⟩ := hB'
    obtain ⟨s1, s2⟩ := subVE (a + b) b (by simp only [subOK, bothB, Bool.and_eq_true]; exact ⟨⟨hC, hB⟩, by simp; omega⟩)
    rw [show a + b - b = a by omega] at s1
    obtain ⟨m1, m2⟩ := mulVE a 1 (by simp only [mulOK, bothB, Bool.and_eq_true]; exact ⟨⟨hA, by decide⟩, by simpa using hA⟩)
    obtain ⟨m3, m4⟩ := mulVE a 0 (by simp only [mulOK, bothB, Bool.and_eq_true]; exact ⟨⟨hA, by decide⟩, by simp; decide⟩)
    rw [Int.mul_one] at m1
    rw [Int.mul_zero] at m3
    clear ha ha2 hA2 hB2 hA hB
    go_enter Try.func6, Try.ntmps6
    go_wp2_with (first | (go_at_call 14; refine (first1 W _ (by assumption)).mono ?_; rintro e w1 ⟨rfl, hb⟩) | (go_at_call 16; refine (add_any _ _ _).mono ?_; rintro e w' ⟨rfl, rfl⟩) | (go_at_call 24; refine (sub_any _ _ _).mono ?_; rintro e w' ⟨rfl, rfl⟩) | (go_at_call 25; refine (mul_any _ _ _).mono ?_; rintro e w' ⟨rfl, rfl⟩) | (go_at_call 23; refine (amount_any _ _).mono ?_; rintro e w' ⟨rfl, rfl⟩))
    all_goals go_ret
    all_goals exact ⟨ret_bool (by first | rfl | (simp; omega)), by assumption⟩
  · simp at ha
    have ha2 : addOK b a = false := by
      rw [← ha]; simp only [addOK, bothB]; rw [Bool.and_comm (amtB b), Int.add_comm]
    obtain ⟨a1, a2⟩ := addVE' a b ha
    obtain ⟨a3, a4⟩ := addVE' b a ha2
    clear ha ha2
    go_enter Try.func6, Try.ntmps6
    go_wp2_with (first | (go_at_call 14; refine (first1 W _ (by assumption)).mono ?_; rintro e w1 ⟨rfl, hb⟩) | (go_at_call 16; refine (add_any _ _ _).mono ?_; rintro e w' ⟨rfl, rfl⟩) | (go_at_call 24; refine (sub_any _ _ _).mono ?_; rintro e w' ⟨rfl, rfl⟩) | (go_at_call 25; refine (mul_any _ _ _).mono ?_; rintro e w' ⟨rfl, rfl⟩) | (go_at_call 23; refine (amount_any _ _).mono ?_; rintro e w' ⟨rfl, rfl⟩))
    all_goals go_ret
    all_goals exact ⟨ret_bool (by first | rfl | (simp; omega)), by assumption⟩

/-! ### The row's step for NumBack: the frame. -/
theorem numBack_own : ownKnob Try.prog.godebug = none := by kernel_rfl
theorem numBack_laidOut : laidOutB Try.prog = true := by kernel_rfl
set_option maxRecDepth 100000 in
theorem numBack_lifted (os : Os) (started : os.Started) (H : Type) (enc : TypeId × Value → H) :
    ReturnsInHanded {} Try.checked os 6 .any (Rows.numBackSpec.pre6 enc Try.prog Try.f6 Rows.numBackRow.domain false) (Rows.numBackSpec.post enc Try.prog Try.f6 false true false false) := by
  refine returnsInHanded_of_change (C := Try.checked) numBack_own started (by kernel_rfl) Try.func6
    (ChangeSpec.witness6 (enc := enc) (C := Try.checked) false ⟨#[], #[.int .i64 0, .int .i64 0], []⟩ 8 (by kernel_rfl) (by kernel_rfl) (by kernel_rfl) (by kernel_rfl)) ?_
  intro W base args ds gs before hval0 hW hcnd _
  have hval : ∀ (j : Nat) t v, Try.f6.params[j]? = some t → args[j]? = some v → Value.okWide Try.prog W .any base t v := hval0
  have hW' := hW
  obtain ⟨p, q, hA0, hV, rfl, hfz, hnd⟩ := hW
  have hA : DataW.TrodAll enc Try.prog W 0 (fun _ => true) true Try.f6.params.toList args.toList ds p := hA0
  rw [Try.params6] at hA hval
  obtain ⟨v0, vs0, d0, ds0, p0, q0, hargs, rfl, rfl, h0, r0⟩ := trodAll_cons hA
  obtain ⟨v1, vs1, d1, ds1, p1, q1, rfl, rfl, rfl, h1, r1⟩ := trodAll_cons r0
  obtain ⟨rfl, rfl, rfl⟩ := trodAll_nil r1
  obtain rfl : args = #[v0, v1] := by cases args; simp_all
  obtain ⟨rfl, rfl⟩ := trodVars_none hV
  have k0 := h0
  have lt0 : ∀ x ∈ p0, x.block < W.heap.size := by obtain ⟨m, hm⟩ := k0; exact DataW.trod_lt m _ _ _ hm
  obtain ⟨a0, rfl, rfl, rfl, w0⟩ := open_int Try.underlying3 (hval 0 3 v0 rfl rfl) h0
  have k1 := h1
  have lt1 : ∀ x ∈ p1, x.block < W.heap.size := by obtain ⟨m, hm⟩ := k1; exact DataW.trod_lt m _ _ _ hm
  obtain ⟨a1, rfl, rfl, rfl, w1⟩ := open_int Try.underlying3 (hval 1 3 v1 rfl rfl) h1
  clear hA0 hval0
  refine (walk_numBack a0 w0 a1 w1 W).mono fun e W' ⟨he, bel⟩ => ?_
  subst he
  exact ⟨_, rfl, _, _, _, [], _, [], hW', trodAll_mk1 (shut_bool Try.underlying4 _), (trodAll_cons_mk (Below.trod numBack_laidOut (by kernel_rfl) (of_decide_eq_true (by kernel_rfl)) k0 bel lt0) (trodAll_cons_mk (Below.trod numBack_laidOut (by kernel_rfl) (of_decide_eq_true (by kernel_rfl)) k1 bel lt1) trodAll_mk0)), rfl, bel.frame _, fun h => by cases h⟩

theorem numBack_over : Rows.numBackRow.holds Try.pinned (OpenSpec.ofChange Rows.numBackSpec) :=
  OpenClaim.holds_of_wide 6 Try.f6 rfl rfl rfl rfl rfl rfl rfl ⟨rfl, rfl, rfl, rfl, rfl⟩ rfl rfl rfl rfl rfl (by kernel_rfl) Try.func6 (by kernel_rfl)
    (of_decide_eq_true (by kernel_rfl)) (by unfold Func.isWrapper; first | (rw [if_pos (by decide +kernel)]; kernel_rfl) | (rw [if_neg (by decide +kernel)]; exact ⟨rfl, rfl⟩))
    (fun os started H enc _ => numBack_lifted os started H enc)

/-- The statement. -/
theorem numBack_holds : Rows.NumBackSaid := numBack_over
#print axioms numBack_holds
end Go.Proofs.Ytnohdbhkepdjbaa
