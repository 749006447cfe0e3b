/- Contracts of num.Sum and of the references' Amount, Add, Sub, Mul, Sum, Tick, After. -/
import Derived.Test.YtbhoakohpfdeoaaGreatNum
import Derived.Handy
namespace Go.Proofs.YtbhoakohpfdeoaaGreat
open Go.RowKit
set_option linter.unusedVariables false

def sumStep (s : Int × Int) (z : Int) : Int × Int := if s.2 = 0 then (addV s.1 z, addE s.1 z) else s
def sumF (zs : List Int) : Int × Int := zs.foldl sumStep (0, 0)
def sumV (zs : List Int) : Int := (sumF zs).1
def sumE (zs : List Int) : Int := (sumF zs).2

theorem sumF_snoc (zs : List Int) (z : Int) : sumF (zs ++ [z]) = sumStep (sumF zs) z := by simp [sumF]
theorem take_snoc' {α : Type} (zs : List α) (k : Nat) (h : k < zs.length) (d : α) : zs.take (k + 1) = zs.take k ++ [zs.getD k d] := by
  rw [List.take_succ_eq_append_getElem h]; simp [List.getD, h]
theorem sum_go (zs : List Int) (k : Nat) (h : k < zs.length) (he : sumE (zs.take k) = 0) : sumV (zs.take (k + 1)) = addV (sumV (zs.take k)) zs[k] ∧ sumE (zs.take (k + 1)) = addE (sumV (zs.take k)) zs[k] := by
  unfold sumV sumE at *
  rw [List.take_succ_eq_append_getElem h, sumF_snoc]; simp [sumStep, he]
theorem foldl_stuck (l : List Int) (s : Int × Int) (h : s.2 ≠ 0) : l.foldl sumStep s = s := by
  induction l with
  | nil => rfl
  | cons z l ih => simp [sumStep, h, ih]
theorem sum_stop (zs : List Int) (k : Nat) (he : sumE (zs.take k) ≠ 0) : sumF zs = sumF (zs.take k) := by
  have : sumF zs = (zs.drop k).foldl sumStep (sumF (zs.take k)) := by
    unfold sumF; rw [← List.foldl_append, List.take_append_drop]
  rw [this, foldl_stuck _ _ he]
theorem addE_cases (a b : Int) : addE a b = 0 ∨ (addE a b = 1 ∧ addV a b = 0) := by
  unfold addE addV; cases addOK a b <;> simp
theorem sumF_bad (zs : List Int) : sumE zs = 0 ∨ (sumE zs = 1 ∧ sumV zs = 0) := by
  unfold sumE sumV
  suffices h : ∀ (l : List Int) (s : Int × Int), (s.2 = 0 ∨ (s.2 = 1 ∧ s.1 = 0)) → ((l.foldl sumStep s).2 = 0 ∨ ((l.foldl sumStep s).2 = 1 ∧ (l.foldl sumStep s).1 = 0)) from h zs (0, 0) (Or.inl rfl)
  intro l
  induction l with
  | nil => intro s h; exact h
  | cons z l ih =>
    intro s h
    apply ih
    unfold sumStep
    split
    · exact addE_cases _ _
    · exact h

set_option maxHeartbeats 400000 in
theorem sum_any (ao : Option Addr) (zs : List Int) (cap : Nat) (w : World) (h : IntsAt .i64 w ao zs) (hm : zs.length ≤ 9223372036854775807) :
    Calls Tryz.prog 63 #[.slice ao zs.length cap] w fun e w' => e = .returned (.tuple #[.int .i64 (sumV zs), .int .i64 (sumE zs)]) ∧ w = w' := by
  go_enter Tryz.func63, Tryz.ntmps63
  go_wp2
  go_loop [4, 5, 6] (fun t e i => ∃ k : Nat, k ≤ zs.length ∧ i = .int .i64 k ∧ t = .int .i64 (sumV (zs.take k)) ∧ e = .int .i64 (sumE (zs.take k))) (fun _ _ i => zs.length - (intOf i).toNat)
  case atStart => exact ⟨0, Nat.zero_le _, rfl, rfl, rfl⟩
  case round =>
    obtain ⟨k, hk, rfl, rfl, rfl⟩ := hrel
    by_cases he : sumE (zs.take k) = 0
    · by_cases hlt : k < zs.length
      · have HS := Lib.hid (sum_go zs k hlt he)
        have he' : (sumE (zs.take k) == 0) = true := by simp [he]
        rcases h with rfl | ⟨b, off, rfl, hc⟩
        · simp at hlt
        have hcell := hc k hlt
        clear hc he
        go_wp2_with (go_at_call 71; refine (add_any _ _ _).mono ?_; rintro e w' ⟨rfl, rfl⟩)
        go_round
        case rel => exact ⟨k + 1, by omega, by go_num, by rw [HS.out.1], by rw [HS.out.2]⟩
        case measure => simp [intOf]; omega
      · have hkk : zs.length ≤ k := by omega
        have HT := Lib.hid (List.take_of_length_le hkk)
        clear he hlt
        go_wp2
        go_ret2
        exact ⟨ret_two (congrArg sumV HT.out) (congrArg sumE HT.out), rfl⟩
    · have HS := Lib.hid (sum_stop zs k he)
      have he' : (sumE (zs.take k) == 0) = false := by simp [he]
      clear he
      by_cases hlt : k < zs.length
      all_goals
        go_wp2
        go_ret2
        exact ⟨ret_two (congrArg Prod.fst HS.out.symm) (congrArg Prod.snd HS.out.symm), rfl⟩

/-! The references. -/
set_option maxHeartbeats 400000 in
theorem ramount_any (n : Int) (w : World) :
    Calls Tryz.prog 39 #[.int .i64 n] w fun e w' => e = .returned (.bool (amtB n)) ∧ w = w' := by
  go_enter Tryz.func39, Tryz.ntmps39
  go_wp2
  all_goals
    go_ret
    exact ⟨ret_bool (by unfold amtB MA; simp; omega), rfl⟩

set_option maxHeartbeats 400000 in
theorem rtick_any (n : Int) (w : World) :
    Calls Tryz.prog 40 #[.int .i64 n] w fun e w' => e = .returned (.bool (tickB n)) ∧ w = w' := by
  go_enter Tryz.func40, Tryz.ntmps40
  go_wp2
  all_goals
    go_ret
    exact ⟨ret_bool (by unfold tickB MT; simp; omega), rfl⟩

theorem addVE (a b : Int) (h : addOK a b = true) : addV a b = a + b ∧ addE a b = 0 := by simp [addV, addE, h]
theorem addVE' (a b : Int) (h : addOK a b = false) : addV a b = 0 ∧ addE a b = 1 := by simp [addV, addE, h]

set_option maxHeartbeats 400000 in
theorem radd_any (a b : Int) (w : World) :
    Calls Tryz.prog 49 #[.int .i64 a, .int .i64 b] w fun e w' => e = .returned (.tuple #[.int .i64 (addV a b), .int .i64 (addE a b)]) ∧ w = w' := by
  by_cases ha : amtB a = true
  · by_cases hb : amtB b = true
    · have hA := (amt_iff a).1 ha
      have hB := (amt_iff b).1 hb
      unfold MA at hA hB
      obtain ⟨hA1, hA2⟩ := hA
      obtain ⟨hB1, hB2⟩ := hB
      by_cases hs : b ≤ 4611686018427387904 - a
      · have HR := Lib.hid (addVE a b (by simp [addOK, bothB, ha, hb]; rw [amt_iff]; unfold MA; omega))
        go_enter Tryz.func49, Tryz.ntmps49
        go_wp2_with (go_at_call 39; refine (ramount_any _ _).mono ?_; rintro e w' ⟨rfl, rfl⟩)
        go_ret2
        exact ⟨ret_two HR.out.1.symm HR.out.2.symm, rfl⟩
      · have HR := Lib.hid (addVE' a b (by simp [addOK, bothB, ha, hb]; rw [← Bool.not_eq_true, amt_iff]; unfold MA; omega))
        go_enter Tryz.func49, Tryz.ntmps49
        go_wp2_with (go_at_call 39; refine (ramount_any _ _).mono ?_; rintro e w' ⟨rfl, rfl⟩)
        go_ret2
        exact ⟨ret_two HR.out.1.symm HR.out.2.symm, rfl⟩
    · simp at hb
      have HR := Lib.hid (addVE' a b (by simp [addOK, bothB, hb]))
      go_enter Tryz.func49, Tryz.ntmps49
      go_wp2_with (go_at_call 39; refine (ramount_any _ _).mono ?_; rintro e w' ⟨rfl, rfl⟩)
      go_ret2
      exact ⟨ret_two HR.out.1.symm HR.out.2.symm, rfl⟩
  · simp at ha
    have HR := Lib.hid (addVE' a b (by simp [addOK, bothB, ha]))
    go_enter Tryz.func49, Tryz.ntmps49
    go_wp2_with (go_at_call 39; refine (ramount_any _ _).mono ?_; rintro e w' ⟨rfl, rfl⟩)
    go_ret2
    exact ⟨ret_two HR.out.1.symm HR.out.2.symm, rfl⟩

end Go.Proofs.YtbhoakohpfdeoaaGreat
