/- Contracts of cflref9.Purse's methods: Has, Total, Give, Take, Move. -/
import Derived.Test.YtadejcpifabpoaaPur0
namespace Go.Proofs.Ytadejcpifabpoaa
open Go.RowKit
set_option linter.unusedVariables false

set_option maxHeartbeats 1000000 in
theorem ref9_is (p n m : Nat) (S : Nat → Prop) (b : Nat → Nat → Int) (w : World) (h : PAt 89 w p S n m b) (a j : Int) :
    Calls Try.prog 59 #[.pointer (some ⟨p, 0, none⟩), .int .i64 a, .int .i64 j] w fun e w' => e = .returned (.bool (hasB n m a j)) ∧ w = w' := by
  obtain ⟨L, lcap, G, C, hl, _, _⟩ := h
  have c0 := hl.cell0
  have c1 := hl.cell1 (i := 0) hl.pos
  have hp := hl.pos
  clear hl
  go_enter Try.func59, Try.ntmps59
  go_wp2
  all_goals
    go_ret
    exact ⟨ret_bool (by unfold hasB; first | (rw [decide_eq_decide]; omega) | (symm; rw [decide_eq_false_iff_not]; omega) | (symm; rw [decide_eq_true_iff]; omega)), rfl⟩

set_option maxHeartbeats 1000000 in
theorem ref9_has (p n m : Nat) (S : Nat → Prop) (b : Nat → Nat → Int) (w : World) (h : PAt 89 w p S n m b) (a j : Int) :
    Calls Try.prog 30 #[.pointer (some ⟨p, 0, none⟩), .int .i64 a, .int .i64 j] w fun e w' => e = .returned (.int .i64 (getB n m b a j)) ∧ w = w' := by
  have H := Lib.hid h
  by_cases hh : hasB n m a j = true
  · obtain ⟨h1, h2, h3, h4⟩ := hasB_iff.1 hh
    obtain ⟨i, rfl⟩ := Int.eq_ofNat_of_zero_le h1
    obtain ⟨k, rfl⟩ := Int.eq_ofNat_of_zero_le h3
    obtain ⟨L, lcap, G, C, hl, _, _⟩ := h
    have c0 := hl.cell0
    have c1 := hl.cell1 (i := i) (by omega)
    have c2 := (hl.cell2 (i := i) (j := k) (by omega) (by omega)).1
    have HR := Lib.hid (show b i k = getB n m b i k by simp [getB, hh])
    clear hl
    go_enter Try.func30, Try.ntmps30
    go_wp2_with (go_at_call 59; refine (ref9_is p n m S b _ H.out _ _).mono ?_; rintro e w' ⟨rfl, rfl⟩)
    go_ret
    exact ⟨ret_int HR.out, rfl⟩
  · simp at hh
    have HR := Lib.hid (show 0 = getB n m b a j by simp [getB, hh])
    clear h
    go_enter Try.func30, Try.ntmps30
    go_wp2_with (go_at_call 59; refine (ref9_is p n m S b _ H.out _ _).mono ?_; rintro e w' ⟨rfl, rfl⟩)
    go_ret
    exact ⟨ret_int HR.out, rfl⟩

set_option maxHeartbeats 1000000 in
theorem ref9_total (p n m : Nat) (S : Nat → Prop) (b : Nat → Nat → Int) (w : World) (h : PAt 89 w p S n m b) (hg : Good n m b) (j : Int) :
    Calls Try.prog 31 #[.pointer (some ⟨p, 0, none⟩), .int .i64 j] w fun e w' => e = .returned (.int .i64 (totB n m b j)) ∧ w = w' := by
  have H := Lib.hid h
  have HG := Lib.hid hg
  have c0 : ∃ L lcap, w.cell? ⟨p, 0, none⟩ = some (.slice (some ⟨L, 0, none⟩) n lcap) := by obtain ⟨L, lcap, G, C, hl, _, _⟩ := h; exact ⟨L, lcap, hl.cell0⟩
  obtain ⟨L, lcap, c0⟩ := c0
  have h16 := hg.n16
  clear h hg
  go_enter Try.func31, Try.ntmps31
  go_wp2_with fail
  go_loop [5, 6] (fun t i => ∃ k : Nat, k ≤ n ∧ i = .int .i64 (k : Int) ∧ t = .int .i64 (partB m b j k)) (fun _ i => n + 1 - (intOf i + 1).toNat)
  case atStart => exact ⟨0, Nat.zero_le _, rfl, by simp [partB, tot]⟩
  case round =>
    obtain ⟨k, hk, rfl, rfl⟩ := hrel
    by_cases hlt : k < n
    · have HS := Lib.hid (part_succ (m := m) (b := b) j hlt)
      have h1 := HG.out.part j (k := k + 1) (by omega)
      have h2 := HG.out.part j hk
      rw [HS.out] at h1
      obtain ⟨h11, h12⟩ := h1
      obtain ⟨h21, h22⟩ := h2
      go_wp2_with (go_at_call 30; refine (ref9_has p n m S b _ H.out _ _).mono ?_; rintro e w' ⟨rfl, rfl⟩)
      go_round
      case rel => exact ⟨k + 1, by omega, by go_num, by rw [HS.out]⟩
      case measure => simp [intOf]; omega
    · obtain rfl : k = n := by omega
      have HT := Lib.hid (show partB m b j k = totB k m b j from rfl)
      clear hlt
      go_wp2
      go_ret
      exact ⟨ret_int HT.out, rfl⟩

set_option maxHeartbeats 1000000 in
theorem ref9_give (p n m : Nat) (S : Nat → Prop) (b : Nat → Nat → Int) (w : World) (h : PAt 89 w p S n m b) (hg : Good n m b) (a j x : Int) :
    Calls Try.prog 26 #[.pointer (some ⟨p, 0, none⟩), .int .i64 a, .int .i64 j, .int .i64 x] w fun e w' => e = .returned (.int .i64 (giveE n m b a j x)) ∧ PPost 89 w p S n m (giveN n m b a j x) w' := by
  have H := Lib.hid h
  have HG := Lib.hid hg
  by_cases hh : hasB n m a j = true
  · obtain ⟨h1, h2, h3, h4⟩ := hasB_iff.1 hh
    obtain ⟨i, rfl⟩ := Int.eq_ofNat_of_zero_le h1
    obtain ⟨k, rfl⟩ := Int.eq_ofNat_of_zero_le h3
    obtain ⟨t1, t2⟩ := hg.part (k : Int) (Nat.le_refl n)
    by_cases hok : addOK (totB n m b k) x = true
    · have HE := Lib.hid (show giveE n m b i k x = 0 by simp [giveE, giveOK, hh, hok])
      have HN := Lib.hid (show giveN n m b i k x = upd b i k (b i k + x) by simp [giveN, giveOK, hh, hok])
      have HA := Lib.hid (addVE _ _ hok)
      obtain ⟨_, _, _, _, h5, h6⟩ := give_ok (show giveOK n m b i k x = true by simp [giveOK, hh, hok])
      simp only [Int.toNat_natCast] at h6
      obtain ⟨b1, b2, b3⟩ := hg.cell (a := i) (j := k) (by omega) (by omega)
      have HT := Lib.hid (show totB n m b k = tot b k n by simp [totB, partB, h4])
      have ham : amtB x = true := (amt_iff x).2 ⟨h5, by unfold MA; omega⟩
      obtain ⟨L, lcap, G, C, hl, hs, hlt⟩ := h
      have c0 := hl.cell0
      have c1 := hl.cell1 (i := i) (by omega)
      obtain ⟨c2, f2⟩ := hl.cell2 (i := i) (j := k) (by omega) (by omega)
      have HP := Lib.hid (PAt.set hl hs hlt (i := i) (j := k) (by omega) (by omega) (b i k + x))
      generalize tot b k n = t at *
      generalize b i k = v at *
      have hw : v + x ≤ 4611686018427387904 := by omega
      have hw2 : x ≤ 4611686018427387904 - t := by omega
      clear hl hok hs hlt hg
      go_enter Try.func26, Try.ntmps26
      go_wp2_with (first | (go_at_call 59; refine (ref9_is p n m S b _ H.out _ _).mono ?_; rintro e w' ⟨rfl, rfl⟩) | (go_at_call 31; refine (ref9_total p n m S b _ H.out HG.out _).mono ?_; rintro e w' ⟨rfl, rfl⟩; rw [HT.out]) | (go_at_call 60; refine (ramount_any _ _).mono ?_; rintro e w' ⟨rfl, rfl⟩))
      go_ret
      exact ⟨ret_int HE.out.symm, by rw [HN.out]; exact HP.out⟩
    · simp at hok
      have HE := Lib.hid (show giveE n m b i k x = 1 by simp [giveE, giveOK, hok])
      have HN := Lib.hid (show giveN n m b i k x = b by simp [giveN, giveOK, hok])
      have HA := Lib.hid (addVE' _ _ hok)
      have HX := Lib.hid (show amtB x = true → 4611686018427387904 - totB n m b k < x from fun hx => by
        simp only [addOK, bothB, Bool.and_eq_false_imp, Bool.and_eq_true] at hok
        have := hok ⟨(amt_iff _).2 ⟨t1, t2⟩, hx⟩
        rw [← Bool.not_eq_true, amt_iff] at this
        rw [amt_iff] at hx
        unfold MA at *; unfold totB at *; omega)
      clear h hok hg
      have t3 : 0 ≤ totB n m b k := t1
      have t4 : totB n m b k ≤ 4611686018427387904 := t2
      by_cases hx : amtB x = true
      · have hlt := HX.out hx
        go_enter Try.func26, Try.ntmps26
        go_wp2_with (first | (go_at_call 59; refine (ref9_is p n m S b _ H.out _ _).mono ?_; rintro e w' ⟨rfl, rfl⟩) | (go_at_call 31; refine (ref9_total p n m S b _ H.out HG.out _).mono ?_; rintro e w' ⟨rfl, rfl⟩) | (go_at_call 60; refine (ramount_any _ _).mono ?_; rintro e w' ⟨rfl, rfl⟩))
        go_ret
        exact ⟨ret_int HE.out.symm, by rw [HN.out]; exact ⟨H.out, Keeps.refl _ _⟩⟩
      · simp at hx
        go_enter Try.func26, Try.ntmps26
        go_wp2_with (first | (go_at_call 59; refine (ref9_is p n m S b _ H.out _ _).mono ?_; rintro e w' ⟨rfl, rfl⟩) | (go_at_call 31; refine (ref9_total p n m S b _ H.out HG.out _).mono ?_; rintro e w' ⟨rfl, rfl⟩) | (go_at_call 60; refine (ramount_any _ _).mono ?_; rintro e w' ⟨rfl, rfl⟩))
        go_ret
        exact ⟨ret_int HE.out.symm, by rw [HN.out]; exact ⟨H.out, Keeps.refl _ _⟩⟩
  · simp at hh
    have HE := Lib.hid (show giveE n m b a j x = 1 by simp [giveE, giveOK, hh])
    have HN := Lib.hid (show giveN n m b a j x = b by simp [giveN, giveOK, hh])
    clear h hg
    go_enter Try.func26, Try.ntmps26
    go_wp2_with (go_at_call 59; refine (ref9_is p n m S b _ H.out _ _).mono ?_; rintro e w' ⟨rfl, rfl⟩)
    go_ret
    exact ⟨ret_int HE.out.symm, by rw [HN.out]; exact ⟨H.out, Keeps.refl _ _⟩⟩

set_option maxHeartbeats 1000000 in
theorem ref9_take (p n m : Nat) (S : Nat → Prop) (b : Nat → Nat → Int) (w : World) (h : PAt 89 w p S n m b) (hg : Good n m b) (a j x : Int) :
    Calls Try.prog 28 #[.pointer (some ⟨p, 0, none⟩), .int .i64 a, .int .i64 j, .int .i64 x] w fun e w' => e = .returned (.int .i64 (takeE n m b a j x)) ∧ PPost 89 w p S n m (takeN n m b a j x) w' := by
  have H := Lib.hid h
  by_cases hh : hasB n m a j = true
  · obtain ⟨h1, h2, h3, h4⟩ := hasB_iff.1 hh
    obtain ⟨i, rfl⟩ := Int.eq_ofNat_of_zero_le h1
    obtain ⟨k, rfl⟩ := Int.eq_ofNat_of_zero_le h3
    by_cases ha : amtB x = true
    · have ha' := (amt_iff x).1 ha
      unfold MA at ha'
      obtain ⟨a1, a2⟩ := ha'
      obtain ⟨b1, b2, b3⟩ := hg.cell (a := i) (j := k) (by omega) (by omega)
      obtain ⟨L, lcap, G, C, hl, hs, hlt⟩ := h
      have c0 := hl.cell0
      have c1 := hl.cell1 (i := i) (by omega)
      obtain ⟨c2, f2⟩ := hl.cell2 (i := i) (j := k) (by omega) (by omega)
      have HP := Lib.hid (PAt.set hl hs hlt (i := i) (j := k) (by omega) (by omega) (b i k - x))
      by_cases hv : b i k < x
      · have HE := Lib.hid (show takeE n m b i k x = 7 by simp [takeE, hh, ha, hv])
        have HN := Lib.hid (show takeN n m b i k x = b by rw [takeN, HE.out]; rfl)
        generalize b i k = v at *
        clear hl hs hlt hg
        go_enter Try.func28, Try.ntmps28
        go_wp2_with (first | (go_at_call 59; refine (ref9_is p n m S b _ H.out _ _).mono ?_; rintro e w' ⟨rfl, rfl⟩) | (go_at_call 60; refine (ramount_any _ _).mono ?_; rintro e w' ⟨rfl, rfl⟩))
        go_ret
        exact ⟨ret_int HE.out.symm, by rw [HN.out]; exact ⟨H.out, Keeps.refl _ _⟩⟩
      · have HE := Lib.hid (show takeE n m b i k x = 0 by simp [takeE, hh, ha, hv])
        have HN := Lib.hid (show takeN n m b i k x = upd b i k (b i k - x) by rw [takeN, HE.out]; simp)
        generalize b i k = v at *
        clear hl hs hlt hg
        go_enter Try.func28, Try.ntmps28
        go_wp2_with (first | (go_at_call 59; refine (ref9_is p n m S b _ H.out _ _).mono ?_; rintro e w' ⟨rfl, rfl⟩) | (go_at_call 60; refine (ramount_any _ _).mono ?_; rintro e w' ⟨rfl, rfl⟩))
        go_ret
        exact ⟨ret_int HE.out.symm, by rw [HN.out]; exact HP.out⟩
    · simp at ha
      have HE := Lib.hid (show takeE n m b i k x = 1 by simp [takeE, ha])
      have HN := Lib.hid (show takeN n m b i k x = b by rw [takeN, HE.out]; rfl)
      clear h hg
      go_enter Try.func28, Try.ntmps28
      go_wp2_with (first | (go_at_call 59; refine (ref9_is p n m S b _ H.out _ _).mono ?_; rintro e w' ⟨rfl, rfl⟩) | (go_at_call 60; refine (ramount_any _ _).mono ?_; rintro e w' ⟨rfl, rfl⟩))
      go_ret
      exact ⟨ret_int HE.out.symm, by rw [HN.out]; exact ⟨H.out, Keeps.refl _ _⟩⟩
  · simp at hh
    have HE := Lib.hid (show takeE n m b a j x = 1 by simp [takeE, hh])
    have HN := Lib.hid (show takeN n m b a j x = b by rw [takeN, HE.out]; rfl)
    clear h hg
    go_enter Try.func28, Try.ntmps28
    go_wp2_with (first | (go_at_call 59; refine (ref9_is p n m S b _ H.out _ _).mono ?_; rintro e w' ⟨rfl, rfl⟩) | (go_at_call 60; refine (ramount_any _ _).mono ?_; rintro e w' ⟨rfl, rfl⟩))
    go_ret
    exact ⟨ret_int HE.out.symm, by rw [HN.out]; exact ⟨H.out, Keeps.refl _ _⟩⟩

set_option maxRecDepth 100000 in
set_option maxHeartbeats 2000000 in
theorem ref9_move (p n m : Nat) (S : Nat → Prop) (b : Nat → Nat → Int) (w : World) (h : PAt 89 w p S n m b) (hg : Good n m b) (f t j x : Int) :
    Calls Try.prog 29 #[.pointer (some ⟨p, 0, none⟩), .int .i64 f, .int .i64 t, .int .i64 j, .int .i64 x] w fun e w' => e = .returned (.int .i64 (moveE n m b f t j x)) ∧ PPost 89 w p S n m (moveN n m b f t j x) w' := by
  have H := Lib.hid h
  by_cases hh : (hasB n m f j && hasB n m t j && amtB x) = true
  · have hh' := hh
    rw [Bool.and_eq_true, Bool.and_eq_true] at hh'
    obtain ⟨⟨hf, ht⟩, ha⟩ := hh'
    obtain ⟨h1, h2, h3, h4⟩ := hasB_iff.1 hf
    obtain ⟨h5, h6, _, _⟩ := hasB_iff.1 ht
    obtain ⟨i, rfl⟩ := Int.eq_ofNat_of_zero_le h1
    obtain ⟨k, rfl⟩ := Int.eq_ofNat_of_zero_le h3
    obtain ⟨q, rfl⟩ := Int.eq_ofNat_of_zero_le h5
    have ha' := (amt_iff x).1 ha
    unfold MA at ha'
    obtain ⟨a1, a2⟩ := ha'
    by_cases hft : i = q
    · subst hft
      have HE := Lib.hid (show moveE n m b i i k x = 14 by simp [moveE, hf, ha])
      have HN := Lib.hid (show moveN n m b i i k x = b by rw [moveN, HE.out]; rfl)
      clear h hg
      go_enter Try.func29, Try.ntmps29
      go_wp2_with (first | (go_at_call 59; refine (ref9_is p n m S b _ H.out _ _).mono ?_; rintro e w' ⟨rfl, rfl⟩) | (go_at_call 60; refine (ramount_any _ _).mono ?_; rintro e w' ⟨rfl, rfl⟩))
      go_ret
      exact ⟨ret_int HE.out.symm, by rw [HN.out]; exact ⟨H.out, Keeps.refl _ _⟩⟩
    · have hft1 : ((i : Int) == (q : Int)) = false := by simp; omega
      obtain ⟨b1, b2, b3⟩ := hg.cell (a := i) (j := k) (by omega) (by omega)
      obtain ⟨d1, d2, _⟩ := hg.cell (a := q) (j := k) (by omega) (by omega)
      obtain ⟨L, lcap, G, C, hl, hs, hlt⟩ := h
      have c0 := hl.cell0
      have c1 := hl.cell1 (i := i) (by omega)
      obtain ⟨c2, f2⟩ := hl.cell2 (i := i) (j := k) (by omega) (by omega)
      by_cases hv : b i k < x
      · have HE := Lib.hid (show moveE n m b i q k x = 7 by rw [moveE, if_pos hh, if_neg (by omega), if_pos (by simpa using hv)])
        have HN := Lib.hid (show moveN n m b i q k x = b by rw [moveN, HE.out]; rfl)
        generalize b i k = v at *
        clear hl hs hlt hg
        go_enter Try.func29, Try.ntmps29
        go_wp2_with (first | (go_at_call 59; refine (ref9_is p n m S b _ H.out _ _).mono ?_; rintro e w' ⟨rfl, rfl⟩) | (go_at_call 60; refine (ramount_any _ _).mono ?_; rintro e w' ⟨rfl, rfl⟩))
        go_ret
        exact ⟨ret_int HE.out.symm, by rw [HN.out]; exact ⟨H.out, Keeps.refl _ _⟩⟩
      · have HE := Lib.hid (show moveE n m b i q k x = 0 by rw [moveE, if_pos hh, if_neg (by omega), if_neg (by simpa using hv)])
        have HN := Lib.hid (show moveN n m b i q k x = upd (upd b i k (b i k - x)) q k (b q k + x) by rw [moveN, HE.out]; simp)
        have hl2 := hl.set (i := i) (j := k) (by omega) (by omega) (b i k - x)
        have k0 := hl2.cell0
        have k1 := hl2.cell1 (i := q) (by omega)
        obtain ⟨k2, g2⟩ := hl2.cell2 (i := q) (j := k) (by omega) (by omega)
        rw [upd_row (Or.inl (fun e => hft e.symm))] at k2
        obtain ⟨hp1, hk1⟩ := PAt.set hl hs hlt (i := i) (j := k) (by omega) (by omega) (b i k - x)
        have hp2 := PAt.set hl2 hs (fun k hk => by simpa [World.setCell] using hlt k hk) (i := q) (j := k) (by omega) (by omega) (b q k + x)
        have HP := Lib.hid (show PPost 89 w p S n m _ _ from ⟨hp2.1, hk1.trans hp2.2 (fun _ h => Or.inl h)⟩)
        have h2b := hg.two (a := i) (c := q) (j := k) (by omega) (by omega) (by omega) hft
        have hw : b q k + x ≤ 9223372036854775807 := by omega
        clear h2b
        have hne : G i ≠ G q := fun e => hft (hl.apart.2.2 i (by omega) q (by omega) e)
        generalize b i k = v at *
        generalize b q k = u at *
        clear hl hl2 hs hlt hg hp1 hk1 hp2
        go_enter Try.func29, Try.ntmps29
        go_wp2_with (first | (go_at_call 59; refine (ref9_is p n m S b _ H.out _ _).mono ?_; rintro e w' ⟨rfl, rfl⟩) | (go_at_call 60; refine (ramount_any _ _).mono ?_; rintro e w' ⟨rfl, rfl⟩))
        go_ret
        exact ⟨ret_int HE.out.symm, by rw [HN.out]; exact HP.out⟩
  · have HE := Lib.hid (show moveE n m b f t j x = 1 by simp [moveE, hh])
    have HN := Lib.hid (show moveN n m b f t j x = b by rw [moveN, HE.out]; rfl)
    have hc : hasB n m f j = false ∨ (hasB n m f j = true ∧ hasB n m t j = false) ∨ (hasB n m f j = true ∧ hasB n m t j = true ∧ amtB x = false) := by
      cases h1 : hasB n m f j <;> cases h2 : hasB n m t j <;> cases h3 : amtB x <;> simp_all
    clear h hg hh
    rcases hc with h1 | ⟨h1, h2⟩ | ⟨h1, h2, h3⟩
    all_goals
      go_enter Try.func29, Try.ntmps29
      go_wp2_with (first | (go_at_call 59; refine (ref9_is p n m S b _ H.out _ _).mono ?_; rintro e w' ⟨rfl, rfl⟩) | (go_at_call 60; refine (ramount_any _ _).mono ?_; rintro e w' ⟨rfl, rfl⟩))
      go_ret
      exact ⟨ret_int HE.out.symm, by rw [HN.out]; exact ⟨H.out, Keeps.refl _ _⟩⟩

end Go.Proofs.Ytadejcpifabpoaa
