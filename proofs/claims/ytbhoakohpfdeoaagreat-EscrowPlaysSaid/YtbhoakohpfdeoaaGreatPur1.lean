/- Contracts of purse.Purse's methods: Has, Total, Give, Take, Move. -/
import Derived.Test.YtbhoakohpfdeoaaGreatPur0
namespace Go.Proofs.YtbhoakohpfdeoaaGreat
open Go.RowKit
set_option linter.unusedVariables false

set_option maxHeartbeats 400000 in
theorem pur_parties (p n m : Nat) (S : Nat → Prop) (b : Nat → Nat → Int) (w : World) (h : PAt 75 w p S n m b) :
    Calls Tryz.prog 52 #[.pointer (some ⟨p, 0, none⟩)] w fun e w' => e = .returned (.int .i64 (n : Nat)) ∧ w = w' := by
  obtain ⟨L, lcap, G, C, hl, _, _⟩ := h
  have c0 := hl.cell0
  have c1 := hl.cell1 (i := 0) hl.pos
  have hp := hl.pos
  clear hl
  go_enter Tryz.func52, Tryz.ntmps52
  go_wp2
  go_ret
  exact ⟨rfl, rfl⟩

set_option maxHeartbeats 400000 in
theorem pur_assets (p n m : Nat) (S : Nat → Prop) (b : Nat → Nat → Int) (w : World) (h : PAt 75 w p S n m b) :
    Calls Tryz.prog 33 #[.pointer (some ⟨p, 0, none⟩)] w fun e w' => e = .returned (.int .i64 (m : Nat)) ∧ w = w' := by
  obtain ⟨L, lcap, G, C, hl, _, _⟩ := h
  have c0 := hl.cell0
  have c1 := hl.cell1 (i := 0) hl.pos
  have hp := hl.pos
  clear hl
  go_enter Tryz.func33, Tryz.ntmps33
  go_wp2
  go_ret
  exact ⟨rfl, rfl⟩

set_option maxHeartbeats 1000000 in
theorem pur_is (p n m : Nat) (S : Nat → Prop) (b : Nat → Nat → Int) (w : World) (h : PAt 75 w p S n m b) (a j : Int) :
    Calls Tryz.prog 48 #[.pointer (some ⟨p, 0, none⟩), .int .i64 a, .int .i64 j] w fun e w' => e = .returned (.bool (hasB n m a j)) ∧ w = w' := by
  have H := Lib.hid h
  clear h
  go_enter Tryz.func48, Tryz.ntmps48
  go_wp2_with (first | (go_at_call 52; refine (pur_parties p n m S b _ H.out).mono ?_; rintro e w' ⟨rfl, rfl⟩) | (go_at_call 33; refine (pur_assets p n m S b _ H.out).mono ?_; rintro e w' ⟨rfl, rfl⟩))
  all_goals
    go_ret
    exact ⟨ret_bool (by unfold hasB; first | (rw [decide_eq_decide]; omega) | (symm; rw [decide_eq_false_iff_not]; omega) | (symm; rw [decide_eq_true_iff]; omega)), rfl⟩

set_option maxHeartbeats 1000000 in
theorem pur_has (p n m : Nat) (S : Nat → Prop) (b : Nat → Nat → Int) (w : World) (h : PAt 75 w p S n m b) (a j : Int) :
    Calls Tryz.prog 24 #[.pointer (some ⟨p, 0, none⟩), .int .i64 a, .int .i64 j] w fun e w' => e = .returned (.int .i64 (getB n m b a j)) ∧ w = w' := by
  have H := Lib.hid h
  by_cases hh : hasB n m a j = true
  · obtain ⟨h1, h2, h3, h4⟩ := hasB_iff.1 hh
    obtain ⟨i, rfl⟩ := Int.eq_ofNat_of_zero_le h1
    obtain ⟨k, rfl⟩ := Int.eq_ofNat_of_zero_le h3
    obtain ⟨L, lcap, G, C, hl, _, _⟩ := h
    have c0 := hl.cell0
    have c1 := hl.cell1 (i := i) (by omega)
    have c2 := (hl.cell2 (i := i) (j := k) (by omega) (by omega)).1
    have HR := Lib.hid (show b i k = getB n m b i k by simp [getB, hh])
    clear hl
    go_enter Tryz.func24, Tryz.ntmps24
    go_wp2_with (go_at_call 48; refine (pur_is p n m S b _ H.out _ _).mono ?_; rintro e w' ⟨rfl, rfl⟩)
    go_ret
    exact ⟨ret_int HR.out, rfl⟩
  · simp at hh
    have HR := Lib.hid (show 0 = getB n m b a j by simp [getB, hh])
    clear h
    go_enter Tryz.func24, Tryz.ntmps24
    go_wp2_with (go_at_call 48; refine (pur_is p n m S b _ H.out _ _).mono ?_; rintro e w' ⟨rfl, rfl⟩)
    go_ret
    exact ⟨ret_int HR.out, rfl⟩

set_option maxHeartbeats 1000000 in
theorem pur_total (p n m : Nat) (S : Nat → Prop) (b : Nat → Nat → Int) (w : World) (h : PAt 75 w p S n m b) (hg : Good n m b) (j : Int) :
    Calls Tryz.prog 46 #[.pointer (some ⟨p, 0, none⟩), .int .i64 j] w fun e w' => e = .returned (.int .i64 (totB n m b j)) ∧ w = w' := by
  have H := Lib.hid h
  have HG := Lib.hid hg
  have c0 : ∃ L lcap, w.cell? ⟨p, 0, none⟩ = some (.slice (some ⟨L, 0, none⟩) n lcap) := by obtain ⟨L, lcap, G, C, hl, _, _⟩ := h; exact ⟨L, lcap, hl.cell0⟩
  obtain ⟨L, lcap, c0⟩ := c0
  have h16 := hg.n16
  clear h hg
  go_enter Tryz.func46, Tryz.ntmps46
  go_wp2_with fail
  go_loop [5, 12] (fun t i => ∃ k : Nat, k ≤ n ∧ i = .int .i64 (k : Int) ∧ t = .int .i64 (partB m b j k)) (fun _ i => n + 1 - (intOf i + 1).toNat)
  case atStart => exact ⟨0, Nat.zero_le _, rfl, by simp [partB, tot]⟩
  case round =>
    obtain ⟨k, hk, rfl, rfl⟩ := hrel
    by_cases hlt : k < n
    · have HS := Lib.hid (part_succ (m := m) (b := b) j hlt)
      have h1 := HG.out.part j (k := k + 1) (by omega)
      have h2 := HG.out.part j hk
      rw [HS.out] at h1
      obtain ⟨h11, h12⟩ := h1
      obtain ⟨h21, h22⟩ := h2
      go_wp2_with (go_at_call 24; refine (pur_has p n m S b _ H.out _ _).mono ?_; rintro e w' ⟨rfl, rfl⟩)
      go_round
      case rel => exact ⟨k + 1, by omega, by go_num, by rw [HS.out]⟩
      case measure => simp [intOf]; omega
    · obtain rfl : k = n := by omega
      have HT := Lib.hid (show partB m b j k = totB k m b j from rfl)
      clear hlt
      go_wp2
      go_ret
      exact ⟨ret_int HT.out, rfl⟩

set_option maxHeartbeats 1000000 in
theorem pur_give (p n m : Nat) (S : Nat → Prop) (b : Nat → Nat → Int) (w : World) (h : PAt 75 w p S n m b) (hg : Good n m b) (a j x : Int) :
    Calls Tryz.prog 60 #[.pointer (some ⟨p, 0, none⟩), .int .i64 a, .int .i64 j, .int .i64 x] w fun e w' => e = .returned (.int .i64 (giveE n m b a j x)) ∧ PPost 75 w p S n m (giveN n m b a j x) w' := by
  have H := Lib.hid h
  have HG := Lib.hid hg
  by_cases hh : hasB n m a j = true
  · obtain ⟨h1, h2, h3, h4⟩ := hasB_iff.1 hh
    obtain ⟨i, rfl⟩ := Int.eq_ofNat_of_zero_le h1
    obtain ⟨k, rfl⟩ := Int.eq_ofNat_of_zero_le h3
    obtain ⟨t1, t2⟩ := hg.part (k : Int) (Nat.le_refl n)
    by_cases hok : addOK (totB n m b k) x = true
    · have HE := Lib.hid (show giveE n m b i k x = 0 by simp [giveE, giveOK, hh, hok])
      have HN := Lib.hid (show giveN n m b i k x = upd b i k (b i k + x) by simp [giveN, giveOK, hh, hok])
      have HA := Lib.hid (addVE _ _ hok)
      obtain ⟨_, _, _, _, h5, h6⟩ := give_ok (show giveOK n m b i k x = true by simp [giveOK, hh, hok])
      simp only [Int.toNat_natCast] at h6
      obtain ⟨b1, b2, b3⟩ := hg.cell (a := i) (j := k) (by omega) (by omega)
      have HT := Lib.hid (show totB n m b k = tot b k n by simp [totB, partB, h4])
      have ham : amtB x = true := (amt_iff x).2 ⟨h5, by unfold MA; omega⟩
      obtain ⟨L, lcap, G, C, hl, hs, hlt⟩ := h
      have c0 := hl.cell0
      have c1 := hl.cell1 (i := i) (by omega)
      obtain ⟨c2, f2⟩ := hl.cell2 (i := i) (j := k) (by omega) (by omega)
      have HP := Lib.hid (PAt.set hl hs hlt (i := i) (j := k) (by omega) (by omega) (b i k + x))
      generalize tot b k n = t at *
      generalize b i k = v at *
      have hw : v + x ≤ 4611686018427387904 := by omega
      have hw2 : x ≤ 4611686018427387904 - t := by omega
      clear hl hok hs hlt hg
      go_enter Tryz.func60, Tryz.ntmps60
      go_wp2_with (first | (go_at_call 48; refine (pur_is p n m S b _ H.out _ _).mono ?_; rintro e w' ⟨rfl, rfl⟩) | (go_at_call 46; refine (pur_total p n m S b _ H.out HG.out _).mono ?_; rintro e w' ⟨rfl, rfl⟩) | (go_at_call 71; refine (add_any _ _ _).mono ?_; rintro e w' ⟨rfl, rfl⟩; rw [HA.out.1, HA.out.2]))
      go_ret
      exact ⟨ret_int HE.out.symm, by rw [HN.out]; exact HP.out⟩
    · simp at hok
      have HE := Lib.hid (show giveE n m b i k x = 1 by simp [giveE, giveOK, hok])
      have HN := Lib.hid (show giveN n m b i k x = b by simp [giveN, giveOK, hok])
      have HA := Lib.hid (addVE' _ _ hok)
      have HX := Lib.hid (show amtB x = true → 4611686018427387904 - totB n m b k < x from fun hx => by
        simp only [addOK, bothB, Bool.and_eq_false_imp, Bool.and_eq_true] at hok
        have := hok ⟨(amt_iff _).2 ⟨t1, t2⟩, hx⟩
        rw [← Bool.not_eq_true, amt_iff] at this
        rw [amt_iff] at hx
        unfold MA at *; unfold totB at *; omega)
      clear h hok hg
      have t3 : 0 ≤ totB n m b k := t1
      have t4 : totB n m b k ≤ 4611686018427387904 := t2
      go_enter Tryz.func60, Tryz.ntmps60
      go_wp2_with (first | (go_at_call 48; refine (pur_is p n m S b _ H.out _ _).mono ?_; rintro e w' ⟨rfl, rfl⟩) | (go_at_call 46; refine (pur_total p n m S b _ H.out HG.out _).mono ?_; rintro e w' ⟨rfl, rfl⟩) | (go_at_call 71; refine (add_any _ _ _).mono ?_; rintro e w' ⟨rfl, rfl⟩; rw [HA.out.1, HA.out.2]))
      go_ret
      exact ⟨ret_int HE.out.symm, by rw [HN.out]; exact ⟨H.out, Keeps.refl _ _⟩⟩
  · simp at hh
    have HE := Lib.hid (show giveE n m b a j x = 1 by simp [giveE, giveOK, hh])
    have HN := Lib.hid (show giveN n m b a j x = b by simp [giveN, giveOK, hh])
    clear h hg
    go_enter Tryz.func60, Tryz.ntmps60
    go_wp2_with (go_at_call 48; refine (pur_is p n m S b _ H.out _ _).mono ?_; rintro e w' ⟨rfl, rfl⟩)
    go_ret
    exact ⟨ret_int HE.out.symm, by rw [HN.out]; exact ⟨H.out, Keeps.refl _ _⟩⟩

set_option maxHeartbeats 1000000 in
theorem pur_take (p n m : Nat) (S : Nat → Prop) (b : Nat → Nat → Int) (w : World) (h : PAt 75 w p S n m b) (hg : Good n m b) (a j x : Int) :
    Calls Tryz.prog 36 #[.pointer (some ⟨p, 0, none⟩), .int .i64 a, .int .i64 j, .int .i64 x] w fun e w' => e = .returned (.int .i64 (takeE n m b a j x)) ∧ PPost 75 w p S n m (takeN n m b a j x) w' := by
  have H := Lib.hid h
  by_cases hh : hasB n m a j = true
  · obtain ⟨h1, h2, h3, h4⟩ := hasB_iff.1 hh
    obtain ⟨i, rfl⟩ := Int.eq_ofNat_of_zero_le h1
    obtain ⟨k, rfl⟩ := Int.eq_ofNat_of_zero_le h3
    by_cases ha : amtB x = true
    · have ha' := (amt_iff x).1 ha
      unfold MA at ha'
      obtain ⟨a1, a2⟩ := ha'
      obtain ⟨b1, b2, b3⟩ := hg.cell (a := i) (j := k) (by omega) (by omega)
      obtain ⟨L, lcap, G, C, hl, hs, hlt⟩ := h
      have c0 := hl.cell0
      have c1 := hl.cell1 (i := i) (by omega)
      obtain ⟨c2, f2⟩ := hl.cell2 (i := i) (j := k) (by omega) (by omega)
      have HP := Lib.hid (PAt.set hl hs hlt (i := i) (j := k) (by omega) (by omega) (b i k - x))
      by_cases hv : b i k < x
      · have HE := Lib.hid (show takeE n m b i k x = 7 by simp [takeE, hh, ha, hv])
        have HN := Lib.hid (show takeN n m b i k x = b by rw [takeN, HE.out]; rfl)
        generalize b i k = v at *
        clear hl hs hlt hg
        go_enter Tryz.func36, Tryz.ntmps36
        go_wp2_with (first | (go_at_call 48; refine (pur_is p n m S b _ H.out _ _).mono ?_; rintro e w' ⟨rfl, rfl⟩) | (go_at_call 34; refine (amount_any _ _).mono ?_; rintro e w' ⟨rfl, rfl⟩))
        go_ret
        exact ⟨ret_int HE.out.symm, by rw [HN.out]; exact ⟨H.out, Keeps.refl _ _⟩⟩
      · have HE := Lib.hid (show takeE n m b i k x = 0 by simp [takeE, hh, ha, hv])
        have HN := Lib.hid (show takeN n m b i k x = upd b i k (b i k - x) by rw [takeN, HE.out]; simp)
        generalize b i k = v at *
        clear hl hs hlt hg
        go_enter Tryz.func36, Tryz.ntmps36
        go_wp2_with (first | (go_at_call 48; refine (pur_is p n m S b _ H.out _ _).mono ?_; rintro e w' ⟨rfl, rfl⟩) | (go_at_call 34; refine (amount_any _ _).mono ?_; rintro e w' ⟨rfl, rfl⟩))
        go_ret
        exact ⟨ret_int HE.out.symm, by rw [HN.out]; exact HP.out⟩
    · simp at ha
      have HE := Lib.hid (show takeE n m b i k x = 1 by simp [takeE, ha])
      have HN := Lib.hid (show takeN n m b i k x = b by rw [takeN, HE.out]; rfl)
      clear h hg
      go_enter Tryz.func36, Tryz.ntmps36
      go_wp2_with (first | (go_at_call 48; refine (pur_is p n m S b _ H.out _ _).mono ?_; rintro e w' ⟨rfl, rfl⟩) | (go_at_call 34; refine (amount_any _ _).mono ?_; rintro e w' ⟨rfl, rfl⟩))
      go_ret
      exact ⟨ret_int HE.out.symm, by rw [HN.out]; exact ⟨H.out, Keeps.refl _ _⟩⟩
  · simp at hh
    have HE := Lib.hid (show takeE n m b a j x = 1 by simp [takeE, hh])
    have HN := Lib.hid (show takeN n m b a j x = b by rw [takeN, HE.out]; rfl)
    clear h hg
    go_enter Tryz.func36, Tryz.ntmps36
    go_wp2_with (first | (go_at_call 48; refine (pur_is p n m S b _ H.out _ _).mono ?_; rintro e w' ⟨rfl, rfl⟩) | (go_at_call 34; refine (amount_any _ _).mono ?_; rintro e w' ⟨rfl, rfl⟩))
    go_ret
    exact ⟨ret_int HE.out.symm, by rw [HN.out]; exact ⟨H.out, Keeps.refl _ _⟩⟩


end Go.Proofs.YtbhoakohpfdeoaaGreat
