/- Parts of the proof: Pur1 Sha1 Sha2 Sha3 Byt Sha4. -/
import Derived.Test.YtkaciaehlibidaaGreatZ01
import Derived.Lib.Mul64
import Derived.Shelf.Bits.Mul64
import Derived.Laws.Bits64b
import Derived.Laws.Externs
import Derived.Deep.CutBlock
import Derived.Deep.DeepCutAuto
import Derived.Laws.Pointers
import Derived.Laws.LoneSync
import Derived.Defers
import Derived.RegionTactic
import Derived.RegionCalls
import Derived.Deep.RegionHeld3
namespace Go.Proofs.YtkaciaehlibidaaGreat
open Go.RowKit
set_option linter.unusedVariables false
set_option linter.unusedSimpArgs false
set_option maxHeartbeats 400000 in
theorem pur_parties (p n m : Nat) (S : Nat → Prop) (b : Nat → Nat → Int) (w : World) (h : PAt 133 w p S n m b) :
 Calls Tryz.prog 60 #[.pointer (some ⟨p, 0, none⟩)] w fun e w' => e = .returned (.int .i64 (n : Nat)) ∧ w = w' := by
 obtain ⟨L, lcap, G, C, hl, _, _⟩ := h
 have c0 := hl.cell0
 have c1 := hl.cell1 (i := 0) hl.pos
 have hp := hl.pos
 clear hl
 go_enter Tryz.func60, Tryz.ntmps60
 go_wp2
 go_ret
 exact ⟨rfl, rfl⟩
set_option maxHeartbeats 400000 in
theorem pur_assets (p n m : Nat) (S : Nat → Prop) (b : Nat → Nat → Int) (w : World) (h : PAt 133 w p S n m b) :
 Calls Tryz.prog 100 #[.pointer (some ⟨p, 0, none⟩)] w fun e w' => e = .returned (.int .i64 (m : Nat)) ∧ w = w' := by
 obtain ⟨L, lcap, G, C, hl, _, _⟩ := h
 have c0 := hl.cell0
 have c1 := hl.cell1 (i := 0) hl.pos
 have hp := hl.pos
 clear hl
 go_enter Tryz.func100, Tryz.ntmps100
 go_wp2
 go_ret
 exact ⟨rfl, rfl⟩
set_option maxHeartbeats 1000000 in
theorem pur_is (p n m : Nat) (S : Nat → Prop) (b : Nat → Nat → Int) (w : World) (h : PAt 133 w p S n m b) (a j : Int) :
 Calls Tryz.prog 98 #[.pointer (some ⟨p, 0, none⟩), .int .i64 a, .int .i64 j] w fun e w' => e = .returned (.bool (hasB n m a j)) ∧ w = w' := by
 have H := Lib.hid h
 clear h
 go_enter Tryz.func98, Tryz.ntmps98
 go_wp2_with (first | (go_at_call 60; refine (pur_parties p n m S b _ H.out).mono ?_; rintro e w' ⟨rfl, rfl⟩) | (go_at_call 100; refine (pur_assets p n m S b _ H.out).mono ?_; rintro e w' ⟨rfl, rfl⟩))
 all_goals
  go_ret
  exact ⟨ret_bool (by unfold hasB; first | (rw [decide_eq_decide]; omega) | (symm; rw [decide_eq_false_iff_not]; omega) | (symm; rw [decide_eq_true_iff]; omega)), rfl⟩
set_option maxHeartbeats 1000000 in
theorem pur_has (p n m : Nat) (S : Nat → Prop) (b : Nat → Nat → Int) (w : World) (h : PAt 133 w p S n m b) (a j : Int) :
 Calls Tryz.prog 104 #[.pointer (some ⟨p, 0, none⟩), .int .i64 a, .int .i64 j] w fun e w' => e = .returned (.int .i64 (getB n m b a j)) ∧ w = w' := by
 have H := Lib.hid h
 by_cases hh : hasB n m a j = true
 · obtain ⟨h1, h2, h3, h4⟩ := hasB_iff.1 hh
   obtain ⟨i, rfl⟩ := Int.eq_ofNat_of_zero_le h1
   obtain ⟨k, rfl⟩ := Int.eq_ofNat_of_zero_le h3
   obtain ⟨L, lcap, G, C, hl, _, _⟩ := h
   have c0 := hl.cell0
   have c1 := hl.cell1 (i := i) (by omega)
   have c2 := (hl.cell2 (i := i) (j := k) (by omega) (by omega)).1
   have HR := Lib.hid (show b i k = getB n m b i k by simp [getB, hh])
   clear hl
   go_enter Tryz.func104, Tryz.ntmps104
   go_wp2_with (go_at_call 98; refine (pur_is p n m S b _ H.out _ _).mono ?_; rintro e w' ⟨rfl, rfl⟩)
   go_ret
   exact ⟨ret_int HR.out, rfl⟩
 · simp at hh
   have HR := Lib.hid (show 0 = getB n m b a j by simp [getB, hh])
   clear h
   go_enter Tryz.func104, Tryz.ntmps104
   go_wp2_with (go_at_call 98; refine (pur_is p n m S b _ H.out _ _).mono ?_; rintro e w' ⟨rfl, rfl⟩)
   go_ret
   exact ⟨ret_int HR.out, rfl⟩
set_option maxHeartbeats 1000000 in
theorem pur_total (p n m : Nat) (S : Nat → Prop) (b : Nat → Nat → Int) (w : World) (h : PAt 133 w p S n m b) (hg : Good n m b) (j : Int) :
 Calls Tryz.prog 67 #[.pointer (some ⟨p, 0, none⟩), .int .i64 j] w fun e w' => e = .returned (.int .i64 (totB n m b j)) ∧ w = w' := by
 have H := Lib.hid h
 have HG := Lib.hid hg
 have c0 : ∃ L lcap, w.cell? ⟨p, 0, none⟩ = some (.slice (some ⟨L, 0, none⟩) n lcap) := by obtain ⟨L, lcap, G, C, hl, _, _⟩ := h; exact ⟨L, lcap, hl.cell0⟩
 obtain ⟨L, lcap, c0⟩ := c0
 have h16 := hg.n16
 clear h hg
 go_enter Tryz.func67, Tryz.ntmps67
 go_wp2_with fail
 go_loop [5, 12] (fun t i => ∃ k : Nat, k ≤ n ∧ i = .int .i64 (k : Int) ∧ t = .int .i64 (partB m b j k)) (fun _ i => n + 1 - (intOf i + 1).toNat)
 case atStart => exact ⟨0, Nat.zero_le _, rfl, by simp [partB, tot]⟩
 case round =>
  obtain ⟨k, hk, rfl, rfl⟩ := hrel
  by_cases hlt : k < n
  · have HS := Lib.hid (part_succ (m := m) (b := b) j hlt)
    have h1 := HG.out.part j (k := k + 1) (by omega)
    have h2 := HG.out.part j hk
    rw [HS.out] at h1
    obtain ⟨h11, h12⟩ := h1
    obtain ⟨h21, h22⟩ := h2
    go_wp2_with (go_at_call 104; refine (pur_has p n m S b _ H.out _ _).mono ?_; rintro e w' ⟨rfl, rfl⟩)
    go_round
    case rel => exact ⟨k + 1, by omega, by go_num, by rw [HS.out]⟩
    case measure => simp [intOf]; omega
  · obtain rfl : k = n := by omega
    have HT := Lib.hid (show partB m b j k = totB k m b j from rfl)
    clear hlt
    go_wp2
    go_ret
    exact ⟨ret_int HT.out, rfl⟩
set_option maxHeartbeats 1000000 in
theorem pur_give (p n m : Nat) (S : Nat → Prop) (b : Nat → Nat → Int) (w : World) (h : PAt 133 w p S n m b) (hg : Good n m b) (a j x : Int) :
 Calls Tryz.prog 121 #[.pointer (some ⟨p, 0, none⟩), .int .i64 a, .int .i64 j, .int .i64 x] w fun e w' => e = .returned (.int .i64 (giveE n m b a j x)) ∧ PPost 133 w p S n m (giveN n m b a j x) w' := by
 have H := Lib.hid h
 have HG := Lib.hid hg
 by_cases hh : hasB n m a j = true
 · obtain ⟨h1, h2, h3, h4⟩ := hasB_iff.1 hh
   obtain ⟨i, rfl⟩ := Int.eq_ofNat_of_zero_le h1
   obtain ⟨k, rfl⟩ := Int.eq_ofNat_of_zero_le h3
   obtain ⟨t1, t2⟩ := hg.part (k : Int) (Nat.le_refl n)
   by_cases hok : addOK (totB n m b k) x = true
   · have HE := Lib.hid (show giveE n m b i k x = 0 by simp [giveE, giveOK, hh, hok])
     have HN := Lib.hid (show giveN n m b i k x = upd b i k (b i k + x) by simp [giveN, giveOK, hh, hok])
     have HA := Lib.hid (addVE _ _ hok)
     obtain ⟨_, _, _, _, h5, h6⟩ := give_ok (show giveOK n m b i k x = true by simp [giveOK, hh, hok])
     simp only [Int.toNat_natCast] at h6
     obtain ⟨b1, b2, b3⟩ := hg.cell (a := i) (j := k) (by omega) (by omega)
     have HT := Lib.hid (show totB n m b k = tot b k n by simp [totB, partB, h4])
     have ham : amtB x = true := (amt_iff x).2 ⟨h5, by unfold MA; omega⟩
     obtain ⟨L, lcap, G, C, hl, hs, hlt⟩ := h
     have c0 := hl.cell0
     have c1 := hl.cell1 (i := i) (by omega)
     obtain ⟨c2, f2⟩ := hl.cell2 (i := i) (j := k) (by omega) (by omega)
     have HP := Lib.hid (PAt.set hl hs hlt (i := i) (j := k) (by omega) (by omega) (b i k + x))
     generalize tot b k n = t at *
     generalize b i k = v at *
     have hw : v + x ≤ 4611686018427387904 := by omega
     have hw2 : x ≤ 4611686018427387904 - t := by omega
     clear hl hok hs hlt hg
     go_enter Tryz.func121, Tryz.ntmps121
     go_wp2_with (first | (go_at_call 98; refine (pur_is p n m S b _ H.out _ _).mono ?_; rintro e w' ⟨rfl, rfl⟩) | (go_at_call 67; refine (pur_total p n m S b _ H.out HG.out _).mono ?_; rintro e w' ⟨rfl, rfl⟩) | (go_at_call 117; refine (add_any _ _ _).mono ?_; rintro e w' ⟨rfl, rfl⟩; rw [HA.out.1, HA.out.2]))
     go_ret
     exact ⟨ret_int HE.out.symm, by rw [HN.out]; exact HP.out⟩
   · simp at hok
     have HE := Lib.hid (show giveE n m b i k x = 1 by simp [giveE, giveOK, hok])
     have HN := Lib.hid (show giveN n m b i k x = b by simp [giveN, giveOK, hok])
     have HA := Lib.hid (addVE' _ _ hok)
     have HX := Lib.hid (show amtB x = true → 4611686018427387904 - totB n m b k < x from fun hx => by
      simp only [addOK, bothB, Bool.and_eq_false_imp, Bool.and_eq_true] at hok
      have := hok ⟨(amt_iff _).2 ⟨t1, t2⟩, hx⟩
      rw [← Bool.not_eq_true, amt_iff] at this
      rw [amt_iff] at hx
      unfold MA at *; unfold totB at *; omega)
     clear h hok hg
     have t3 : 0 ≤ totB n m b k := t1
     have t4 : totB n m b k ≤ 4611686018427387904 := t2
     go_enter Tryz.func121, Tryz.ntmps121
     go_wp2_with (first | (go_at_call 98; refine (pur_is p n m S b _ H.out _ _).mono ?_; rintro e w' ⟨rfl, rfl⟩) | (go_at_call 67; refine (pur_total p n m S b _ H.out HG.out _).mono ?_; rintro e w' ⟨rfl, rfl⟩) | (go_at_call 117; refine (add_any _ _ _).mono ?_; rintro e w' ⟨rfl, rfl⟩; rw [HA.out.1, HA.out.2]))
     go_ret
     exact ⟨ret_int HE.out.symm, by rw [HN.out]; exact ⟨H.out, Keeps.refl _ _⟩⟩
 · simp at hh
   have HE := Lib.hid (show giveE n m b a j x = 1 by simp [giveE, giveOK, hh])
   have HN := Lib.hid (show giveN n m b a j x = b by simp [giveN, giveOK, hh])
   clear h hg
   go_enter Tryz.func121, Tryz.ntmps121
   go_wp2_with (go_at_call 98; refine (pur_is p n m S b _ H.out _ _).mono ?_; rintro e w' ⟨rfl, rfl⟩)
   go_ret
   exact ⟨ret_int HE.out.symm, by rw [HN.out]; exact ⟨H.out, Keeps.refl _ _⟩⟩
set_option maxHeartbeats 1000000 in
theorem pur_take (p n m : Nat) (S : Nat → Prop) (b : Nat → Nat → Int) (w : World) (h : PAt 133 w p S n m b) (hg : Good n m b) (a j x : Int) :
 Calls Tryz.prog 101 #[.pointer (some ⟨p, 0, none⟩), .int .i64 a, .int .i64 j, .int .i64 x] w fun e w' => e = .returned (.int .i64 (takeE n m b a j x)) ∧ PPost 133 w p S n m (takeN n m b a j x) w' := by
 have H := Lib.hid h
 by_cases hh : hasB n m a j = true
 · obtain ⟨h1, h2, h3, h4⟩ := hasB_iff.1 hh
   obtain ⟨i, rfl⟩ := Int.eq_ofNat_of_zero_le h1
   obtain ⟨k, rfl⟩ := Int.eq_ofNat_of_zero_le h3
   by_cases ha : amtB x = true
   · have ha' := (amt_iff x).1 ha
     unfold MA at ha'
     obtain ⟨a1, a2⟩ := ha'
     obtain ⟨b1, b2, b3⟩ := hg.cell (a := i) (j := k) (by omega) (by omega)
     obtain ⟨L, lcap, G, C, hl, hs, hlt⟩ := h
     have c0 := hl.cell0
     have c1 := hl.cell1 (i := i) (by omega)
     obtain ⟨c2, f2⟩ := hl.cell2 (i := i) (j := k) (by omega) (by omega)
     have HP := Lib.hid (PAt.set hl hs hlt (i := i) (j := k) (by omega) (by omega) (b i k - x))
     by_cases hv : b i k < x
     · have HE := Lib.hid (show takeE n m b i k x = 7 by simp [takeE, hh, ha, hv])
       have HN := Lib.hid (show takeN n m b i k x = b by rw [takeN, HE.out]; rfl)
       generalize b i k = v at *
       clear hl hs hlt hg
       go_enter Tryz.func101, Tryz.ntmps101
       go_wp2_with (first | (go_at_call 98; refine (pur_is p n m S b _ H.out _ _).mono ?_; rintro e w' ⟨rfl, rfl⟩) | (go_at_call 69; refine (amount_any _ _).mono ?_; rintro e w' ⟨rfl, rfl⟩))
       go_ret
       exact ⟨ret_int HE.out.symm, by rw [HN.out]; exact ⟨H.out, Keeps.refl _ _⟩⟩
     · have HE := Lib.hid (show takeE n m b i k x = 0 by simp [takeE, hh, ha, hv])
       have HN := Lib.hid (show takeN n m b i k x = upd b i k (b i k - x) by rw [takeN, HE.out]; simp)
       generalize b i k = v at *
       clear hl hs hlt hg
       go_enter Tryz.func101, Tryz.ntmps101
       go_wp2_with (first | (go_at_call 98; refine (pur_is p n m S b _ H.out _ _).mono ?_; rintro e w' ⟨rfl, rfl⟩) | (go_at_call 69; refine (amount_any _ _).mono ?_; rintro e w' ⟨rfl, rfl⟩))
       go_ret
       exact ⟨ret_int HE.out.symm, by rw [HN.out]; exact HP.out⟩
   · simp at ha
     have HE := Lib.hid (show takeE n m b i k x = 1 by simp [takeE, ha])
     have HN := Lib.hid (show takeN n m b i k x = b by rw [takeN, HE.out]; rfl)
     clear h hg
     go_enter Tryz.func101, Tryz.ntmps101
     go_wp2_with (first | (go_at_call 98; refine (pur_is p n m S b _ H.out _ _).mono ?_; rintro e w' ⟨rfl, rfl⟩) | (go_at_call 69; refine (amount_any _ _).mono ?_; rintro e w' ⟨rfl, rfl⟩))
     go_ret
     exact ⟨ret_int HE.out.symm, by rw [HN.out]; exact ⟨H.out, Keeps.refl _ _⟩⟩
 · simp at hh
   have HE := Lib.hid (show takeE n m b a j x = 1 by simp [takeE, hh])
   have HN := Lib.hid (show takeN n m b a j x = b by rw [takeN, HE.out]; rfl)
   clear h hg
   go_enter Tryz.func101, Tryz.ntmps101
   go_wp2_with (first | (go_at_call 98; refine (pur_is p n m S b _ H.out _ _).mono ?_; rintro e w' ⟨rfl, rfl⟩) | (go_at_call 69; refine (amount_any _ _).mono ?_; rintro e w' ⟨rfl, rfl⟩))
   go_ret
   exact ⟨ret_int HE.out.symm, by rw [HN.out]; exact ⟨H.out, Keeps.refl _ _⟩⟩
set_option maxRecDepth 100000 in
set_option maxHeartbeats 2000000 in
theorem pur_move (p n m : Nat) (S : Nat → Prop) (b : Nat → Nat → Int) (w : World) (h : PAt 133 w p S n m b) (hg : Good n m b) (f t j x : Int) :
 Calls Tryz.prog 62 #[.pointer (some ⟨p, 0, none⟩), .int .i64 f, .int .i64 t, .int .i64 j, .int .i64 x] w fun e w' => e = .returned (.int .i64 (moveE n m b f t j x)) ∧ PPost 133 w p S n m (moveN n m b f t j x) w' := by
 have H := Lib.hid h
 by_cases hh : (hasB n m f j && hasB n m t j && amtB x) = true
 · have hh' := hh
   rw [Bool.and_eq_true, Bool.and_eq_true] at hh'
   obtain ⟨⟨hf, ht⟩, ha⟩ := hh'
   obtain ⟨h1, h2, h3, h4⟩ := hasB_iff.1 hf
   obtain ⟨h5, h6, _, _⟩ := hasB_iff.1 ht
   obtain ⟨i, rfl⟩ := Int.eq_ofNat_of_zero_le h1
   obtain ⟨k, rfl⟩ := Int.eq_ofNat_of_zero_le h3
   obtain ⟨q, rfl⟩ := Int.eq_ofNat_of_zero_le h5
   have ha' := (amt_iff x).1 ha
   unfold MA at ha'
   obtain ⟨a1, a2⟩ := ha'
   by_cases hft : i = q
   · subst hft
     have HE := Lib.hid (show moveE n m b i i k x = 14 by simp [moveE, hf, ha])
     have HN := Lib.hid (show moveN n m b i i k x = b by rw [moveN, HE.out]; rfl)
     clear h hg
     go_enter Tryz.func62, Tryz.ntmps62
     go_wp2_with (first | (go_at_call 98; refine (pur_is p n m S b _ H.out _ _).mono ?_; rintro e w' ⟨rfl, rfl⟩) | (go_at_call 69; refine (amount_any _ _).mono ?_; rintro e w' ⟨rfl, rfl⟩))
     go_ret
     exact ⟨ret_int HE.out.symm, by rw [HN.out]; exact ⟨H.out, Keeps.refl _ _⟩⟩
   · have hft1 : ((i : Int) == (q : Int)) = false := by simp; omega
     obtain ⟨b1, b2, b3⟩ := hg.cell (a := i) (j := k) (by omega) (by omega)
     obtain ⟨d1, d2, _⟩ := hg.cell (a := q) (j := k) (by omega) (by omega)
     obtain ⟨L, lcap, G, C, hl, hs, hlt⟩ := h
     have c0 := hl.cell0
     have c1 := hl.cell1 (i := i) (by omega)
     obtain ⟨c2, f2⟩ := hl.cell2 (i := i) (j := k) (by omega) (by omega)
     by_cases hv : b i k < x
     · have HE := Lib.hid (show moveE n m b i q k x = 7 by rw [moveE, if_pos hh, if_neg (by omega), if_pos (by simpa using hv)])
       have HN := Lib.hid (show moveN n m b i q k x = b by rw [moveN, HE.out]; rfl)
       generalize b i k = v at *
       clear hl hs hlt hg
       go_enter Tryz.func62, Tryz.ntmps62
       go_wp2_with (first | (go_at_call 98; refine (pur_is p n m S b _ H.out _ _).mono ?_; rintro e w' ⟨rfl, rfl⟩) | (go_at_call 69; refine (amount_any _ _).mono ?_; rintro e w' ⟨rfl, rfl⟩))
       go_ret
       exact ⟨ret_int HE.out.symm, by rw [HN.out]; exact ⟨H.out, Keeps.refl _ _⟩⟩
     · have HE := Lib.hid (show moveE n m b i q k x = 0 by rw [moveE, if_pos hh, if_neg (by omega), if_neg (by simpa using hv)])
       have HN := Lib.hid (show moveN n m b i q k x = upd (upd b i k (b i k - x)) q k (b q k + x) by rw [moveN, HE.out]; simp)
       have hl2 := hl.set (i := i) (j := k) (by omega) (by omega) (b i k - x)
       have k0 := hl2.cell0
       have k1 := hl2.cell1 (i := q) (by omega)
       obtain ⟨k2, g2⟩ := hl2.cell2 (i := q) (j := k) (by omega) (by omega)
       rw [upd_row (Or.inl (fun e => hft e.symm))] at k2
       obtain ⟨hp1, hk1⟩ := PAt.set hl hs hlt (i := i) (j := k) (by omega) (by omega) (b i k - x)
       have hp2 := PAt.set hl2 hs (fun k hk => by simpa [World.setCell] using hlt k hk) (i := q) (j := k) (by omega) (by omega) (b q k + x)
       have HP := Lib.hid (show PPost 133 w p S n m _ _ from ⟨hp2.1, hk1.trans hp2.2 (fun _ h => Or.inl h)⟩)
       have h2b := hg.two (a := i) (c := q) (j := k) (by omega) (by omega) (by omega) hft
       have hw : b q k + x ≤ 9223372036854775807 := by omega
       clear h2b
       have hne : G i ≠ G q := fun e => hft (hl.apart.2.2 i (by omega) q (by omega) e)
       generalize b i k = v at *
       generalize b q k = u at *
       clear hl hl2 hs hlt hg hp1 hk1 hp2
       go_enter Tryz.func62, Tryz.ntmps62
       go_wp2_with (first | (go_at_call 98; refine (pur_is p n m S b _ H.out _ _).mono ?_; rintro e w' ⟨rfl, rfl⟩) | (go_at_call 69; refine (amount_any _ _).mono ?_; rintro e w' ⟨rfl, rfl⟩))
       go_ret
       exact ⟨ret_int HE.out.symm, by rw [HN.out]; exact HP.out⟩
 · have HE := Lib.hid (show moveE n m b f t j x = 1 by simp [moveE, hh])
   have HN := Lib.hid (show moveN n m b f t j x = b by rw [moveN, HE.out]; rfl)
   have hc : hasB n m f j = false ∨ (hasB n m f j = true ∧ hasB n m t j = false) ∨ (hasB n m f j = true ∧ hasB n m t j = true ∧ amtB x = false) := by
    cases h1 : hasB n m f j <;> cases h2 : hasB n m t j <;> cases h3 : amtB x <;> simp_all
   clear h hg hh
   rcases hc with h1 | ⟨h1, h2⟩ | ⟨h1, h2, h3⟩
   all_goals
    go_enter Tryz.func62, Tryz.ntmps62
    go_wp2_with (first | (go_at_call 98; refine (pur_is p n m S b _ H.out _ _).mono ?_; rintro e w' ⟨rfl, rfl⟩) | (go_at_call 69; refine (amount_any _ _).mono ?_; rintro e w' ⟨rfl, rfl⟩))
    go_ret
    exact ⟨ret_int HE.out.symm, by rw [HN.out]; exact ⟨H.out, Keeps.refl _ _⟩⟩
theorem add64_run (x y : Nat) (w : World) : (callFunc 150 #[.int .u64 x, .int .u64 y, .int .u64 0]).run Tryz.prog w = .ok (.value (.tuple #[.int .u64 (((x + y) % 18446744073709551616 : Nat) : Int), .int .u64 (((x + y) / 18446744073709551616 : Nat) : Int)])) w := by
 rw [run_callFunc_extern Tryz.func150 (by kernel_rfl) (by kernel_rfl) (by kernel_rfl) (e := add64Entry) (by kernel_rfl), run_add64 x y 0 (by omega) (by omega) (by omega) (by omega)]
 simp only [Result.andThen]
 congr 5 <;> omega
def sqHi (x : Nat) : Nat := x * x / 18446744073709551616
def sqLo (x : Nat) : Nat := x * x % 18446744073709551616
def sqB (x p : Nat) : Bool := decide (sqHi x < p) || (decide (sqHi x = p) && decide (sqLo x = 0))
set_option maxHeartbeats 1000000 in
theorem square_any (x p : Nat) (hx : x < 18446744073709551616) (w : World) : Calls Tryz.prog 144 #[.int .u64 x, .int .u64 p] w fun e w' => e = .returned (.bool (sqB x p)) ∧ w = w' := by
 have HM := Lib.hid (mul64_any x x hx hx w)
 have H1 := Lib.hid (show sqHi x = x * x / 18446744073709551616 by rw [sqHi])
 have H2 := Lib.hid (show sqLo x = x * x % 18446744073709551616 by rw [sqLo])
 rw [← H1.out, ← H2.out] at HM
 have HB := Lib.hid (show sqB x p = (decide (sqHi x < p) || (decide (sqHi x = p) && decide (sqLo x = 0))) by rw [sqB])
 generalize sqHi x = hi at *
 generalize sqLo x = lo at *
 clear H1 H2 hx
 go_enter Tryz.func144, Tryz.ntmps144
 go_wp2_with fail
 refine HM.out.mono ?_
 rintro e w' ⟨rfl, rfl⟩
 by_cases h1 : hi < p
 · have HR := Lib.hid (show sqB x p = true by rw [HB.out, decide_eq_true h1]; rfl)
   go_wp2
   go_ret
   exact ⟨ret_bool HR.out.symm, rfl⟩
 cases h2 : ((hi : Int) == (p : Int))
 · have HR : Hid (sqB x p = false) := Lib.hid (by
    simp only [beq_eq_false_iff_ne, ne_eq] at h2
    rw [HB.out, decide_eq_false (by omega), decide_eq_false (by omega)]; rfl)
   go_wp2
   go_ret
   exact ⟨ret_bool HR.out.symm, rfl⟩
 have HR : Hid (sqB x p = ((lo : Int) == 0)) := Lib.hid (by
  simp only [beq_iff_eq] at h2
  rw [HB.out, decide_eq_false (by omega), decide_eq_true (by omega), Bool.eq_iff_iff]; simp)
 go_wp2
 go_ret
 exact ⟨ret_bool HR.out.symm, rfl⟩
def cuOver (x : Nat) : Nat := sqLo x * x / 18446744073709551616
def cuLow (x : Nat) : Nat := sqLo x * x % 18446744073709551616
def cuMore (x : Nat) : Nat := sqHi x * x / 18446744073709551616
def cuHi (x : Nat) : Nat := sqHi x * x % 18446744073709551616
def cuHigh (x : Nat) : Nat := (cuHi x + cuOver x) % 18446744073709551616
def cuCarry (x : Nat) : Nat := (cuHi x + cuOver x) / 18446744073709551616
def cubeB (x p : Nat) : Bool := decide (cuMore x + cuCarry x = 0) && (decide (cuHigh x < p * 4294967296) || (decide (cuHigh x = p * 4294967296) && decide (cuLow x = 0)))
set_option maxHeartbeats 1000000 in
theorem cube_any (x p : Nat) (hx : x < 2199023255552) (hp : p < 1048576) (w : World) : Calls Tryz.prog 143 #[.int .u64 x, .int .u64 p] w fun e w' => e = .returned (.bool (cubeB x p)) ∧ w = w' := by
 have hm := fun y z (hy : y < 18446744073709551616) (hz : z < 18446744073709551616) => mul64_any y z hy hz w
 have HM := Lib.hid (hm x x (by omega) (by omega))
 have H1 := Lib.hid (show sqHi x = x * x / 18446744073709551616 by rw [sqHi])
 have H2 := Lib.hid (show sqLo x = x * x % 18446744073709551616 by rw [sqLo])
 rw [← H1.out, ← H2.out] at HM
 have hlo : sqLo x < 18446744073709551616 := by unfold sqLo; omega
 have hhi : sqHi x < 18446744073709551616 := by
  unfold sqHi
  have := Nat.mul_lt_mul'' hx hx
  omega
 have HM2 := Lib.hid (hm (sqLo x) x hlo (by omega))
 have HM3 := Lib.hid (hm (sqHi x) x hhi (by omega))
 have G1 := Lib.hid (show cuOver x = sqLo x * x / 18446744073709551616 by rw [cuOver])
 have G2 := Lib.hid (show cuLow x = sqLo x * x % 18446744073709551616 by rw [cuLow])
 have G3 := Lib.hid (show cuMore x = sqHi x * x / 18446744073709551616 by rw [cuMore])
 have G4 := Lib.hid (show cuHi x = sqHi x * x % 18446744073709551616 by rw [cuHi])
 rw [← G1.out, ← G2.out] at HM2
 rw [← G3.out, ← G4.out] at HM3
 have hadd := fun w => add64_run (cuHi x) (cuOver x) w
 have G5 := Lib.hid (show cuHigh x = (cuHi x + cuOver x) % 18446744073709551616 by rw [cuHigh])
 have G6 := Lib.hid (show cuCarry x = (cuHi x + cuOver x) / 18446744073709551616 by rw [cuCarry])
 rw [← G5.out, ← G6.out] at hadd
 have HB := Lib.hid (show cubeB x p = (decide (cuMore x + cuCarry x = 0) && (decide (cuHigh x < p * 4294967296) || (decide (cuHigh x = p * 4294967296) && decide (cuLow x = 0)))) by rw [cubeB])
 have hmc : cuMore x + cuCarry x < 18446744073709551616 := by
  have e1 : cuMore x < 2199023255552 := by
   unfold cuMore
   have := Nat.mul_lt_mul'' hhi hx
   omega
  have e2 : cuCarry x ≤ 1 := by
   unfold cuCarry cuHi cuOver
   have := Nat.mul_lt_mul'' hlo hx
   omega
  omega
 generalize cuMore x = more at *
 generalize cuCarry x = carry at *
 generalize cuHigh x = high at *
 generalize cuLow x = low at *
 generalize cuOver x = over at *
 generalize cuHi x = chi at *
 generalize sqHi x = hi at *
 generalize sqLo x = lo at *
 clear H1 H2 G1 G2 G3 G4 G5 G6 hm hlo hhi
 go_enter Tryz.func143, Tryz.ntmps143
 go_wp2_with fail
 refine HM.out.mono ?_
 rintro e w' ⟨rfl, rfl⟩
 go_wp2_with fail
 refine HM2.out.mono ?_
 rintro e w' ⟨rfl, rfl⟩
 go_wp2_with fail
 refine HM3.out.mono ?_
 rintro e w' ⟨rfl, rfl⟩
 have hw : IntKind.u64.wrap ((more : Int) + (carry : Int)) = ((more + carry : Nat) : Int) := by rw [IntKind.wrap_u64]; omega
 cases h0 : (((more : Int) + (carry : Int)) == 0)
 · have HR : Hid (cubeB x p = false) := Lib.hid (by
    simp only [beq_eq_false_iff_ne, ne_eq] at h0
    rw [HB.out, decide_eq_false (by omega)]; rfl)
   go_wp2
   go_ret
   exact ⟨ret_bool HR.out.symm, rfl⟩
 have H0 := Lib.hid (show more + carry = 0 by simp only [beq_iff_eq] at h0; omega)
 by_cases h1 : (high : Int) < (p : Int) * 4294967296
 · have HR : Hid (cubeB x p = true) := Lib.hid (by
    rw [HB.out, decide_eq_true H0.out, decide_eq_true (by omega)]; rfl)
   go_wp2
   go_ret
   exact ⟨ret_bool HR.out.symm, rfl⟩
 have h1' : decide ((high : Int) < (p : Int) * 4294967296) = false := decide_eq_false h1
 have H1 := Lib.hid h1
 clear h1
 cases h2 : ((high : Int) == (p : Int) * 4294967296)
 · have HR : Hid (cubeB x p = false) := Lib.hid (by
    simp only [beq_eq_false_iff_ne, ne_eq] at h2
    have h1 := H1.out
    rw [HB.out, decide_eq_true H0.out, decide_eq_false (by omega), decide_eq_false (by omega)]; rfl)
   go_wp2
   go_ret
   exact ⟨ret_bool HR.out.symm, rfl⟩
 have HR : Hid (cubeB x p = ((low : Int) == 0)) := Lib.hid (by
  simp only [beq_iff_eq] at h2
  have h1 := H1.out
  rw [HB.out, decide_eq_true H0.out, decide_eq_false (by omega), decide_eq_true (by omega), Bool.eq_iff_iff]; simp)
 go_wp2
 go_ret
 exact ⟨ret_bool HR.out.symm, rfl⟩
def primeGo (n : Nat) : Nat → Nat → Bool
 | 0, _ => true
 | f + 1, d => if d * d ≤ n then (if n % d = 0 then false else primeGo n f (d + 1)) else true
def primeB (n : Nat) : Bool := primeGo n n 2
set_option maxHeartbeats 1000000 in
theorem prime_any (n : Nat) (hn : n < 1048576) (w : World) : Calls Tryz.prog 141 #[.int .u64 n] w fun e w' => e = .returned (.bool (primeB n)) ∧ w = w' := by
 have HB := Lib.hid (show primeB n = primeGo n n 2 from rfl)
 go_enter Tryz.func141, Tryz.ntmps141
 go_wp2_with fail
 go_loopw [3] (fun i wr => ∃ d f : Nat, i = .int .u64 d ∧ 2 ≤ d ∧ primeB n = primeGo n f d ∧ n ≤ f + d ∧ d ≤ 2000 ∧ wr = w) (fun i _ => 2001 - (intOf i).toNat)
 case atStart => exact ⟨2, n, rfl, Nat.le_refl _, rfl, by omega, by omega, rfl⟩
 case round =>
  obtain ⟨d, f, rfl, h2, hp, hf, hd, rfl⟩ := hrel
  have HP := Lib.hid hp
  clear hp
  have hw : IntKind.u64.wrap ((d : Int) * (d : Int)) = ((d * d : Nat) : Int) := by
   have := Nat.mul_le_mul hd hd
   rw [IntKind.wrap_u64]; omega
  have hd0 : (d : Int) ≠ 0 := by omega
  have hd1 : ¬ ((d : Int) = 0) := by omega
  have hd2 : ((d : Int) == 0) = false := by simp; omega
  by_cases hdd : ((d * d : Nat) : Int) ≤ (n : Int)
  · obtain ⟨f', rfl⟩ : ∃ f', f = f' + 1 := ⟨f - 1, by have := Nat.mul_le_mul_right d h2; omega⟩
    have HS : Hid (primeGo n (f' + 1) d = if n % d = 0 then false else primeGo n f' (d + 1)) := Lib.hid (by
     show (if d * d ≤ n then _ else _) = _
     rw [if_pos (by omega)])
    have hd1000 : d ≤ 1024 := by
     by_cases h : d ≤ 1024
     · exact h
     · have : 1025 * 1025 ≤ d * d := Nat.mul_le_mul (by omega) (by omega)
       omega
    have hdd2 : (d : Int) * (d : Int) ≤ (n : Int) := by rw [← Int.natCast_mul]; exact hdd
    cases hq : ((n : Int) % (d : Int) == 0)
    · have HQ := Lib.hid (show n % d ≠ 0 by simp only [beq_eq_false_iff_ne, ne_eq] at hq; omega)
      go_wp2
      go_roundw
      case rel => exact ⟨d + 1, f', by go_num, by omega, by rw [HP.out, HS.out, if_neg HQ.out], by omega, by omega, by first | rfl | trivial⟩
      case measure => simp [intOf]; omega
    · have HQ := Lib.hid (show n % d = 0 by simp only [beq_iff_eq] at hq; omega)
      go_wp2
      go_ret
      exact ⟨ret_bool (by rw [HP.out, HS.out, if_pos HQ.out]), rfl⟩
  · have hdd2 : ¬ (d : Int) * (d : Int) ≤ (n : Int) := by rw [← Int.natCast_mul]; exact hdd
    have HS : Hid (primeGo n f d = true) := Lib.hid (by
     cases f with
     | zero => rfl
     | succ f =>
       show (if d * d ≤ n then _ else _) = _
       rw [if_neg (by omega)])
    go_wp2
    go_ret
    exact ⟨ret_bool (by rw [HP.out, HS.out]), rfl⟩
def rootGo (fits : Nat → Bool) : Nat → Nat → Nat
 | 0, x => x
 | j + 1, x => rootGo fits j (if fits (x ||| 2 ^ j) = true then x ||| 2 ^ j else x)
theorem or_lt41 (x j : Nat) (hx : x < 2199023255552) (hj : j ≤ 40) : x ||| 2 ^ j < 2199023255552 := by
 have e : (2199023255552 : Nat) = 2 ^ 41 := by decide
 rw [e] at hx ⊢
 exact Nat.or_lt_two_pow hx (Nat.pow_lt_pow_right (by omega) (by omega))
def bitOf (j : Nat) : Nat := if j = 0 then 0 else 2 ^ (j - 1)
set_option maxHeartbeats 1000000 in
theorem root_any (F p : Nat) (fits : Nat → Bool) (hcf : ∀ (args : Array Value) (w : World), (callFunc F args).run Tryz.prog w = .ok (.enter F args) w) (hF : ∀ (x : Nat) (w : World), x < 2199023255552 → Calls Tryz.prog F #[.int .u64 x, .int .u64 p] w fun e w' => e = .returned (.bool (fits x)) ∧ w = w') (w : World) :
 Calls Tryz.prog 142 #[.int .u64 p, .func (.func F) #[] #[]] w fun e w' => e = .returned (.int .u32 ((rootGo fits 41 0 % 4294967296 : Nat) : Int)) ∧ w = w' := by
 have HF := Lib.hid hF
 clear hF
 go_enter Tryz.func142, Tryz.ntmps142
 go_wp2_with fail
 go_loopw [5, 6] (fun x b wr => ∃ y j : Nat, x = .int .u64 y ∧ b = .int .u64 (bitOf j) ∧ j ≤ 41 ∧ y < 2199023255552 ∧ rootGo fits 41 0 = rootGo fits j y ∧ wr = w) (fun _ b _ => (intOf b).toNat)
 case atStart => exact ⟨0, 41, rfl, by rw [show bitOf 41 = 1099511627776 by decide]; rfl, Nat.le_refl _, by decide, rfl, rfl⟩
 case round =>
  obtain ⟨y, j, rfl, rfl, hj, hy, hr, rfl⟩ := hrel
  have HR := Lib.hid hr
  clear hr
  cases j with
  | zero =>
    have hb : bitOf 0 = 0 := rfl
    have HR2 := Lib.hid (show rootGo fits 41 0 = y by rw [HR.out]; rfl)
    rw [hb]
    go_wp2
    go_ret
    exact ⟨ret_int (by rw [HR2.out]; omega), rfl⟩
  | succ j =>
    have hb : bitOf (j + 1) = 2 ^ j := rfl
    rw [hb]
    have hpos : 0 < 2 ^ j := Nat.two_pow_pos j
    have hor := or_lt41 y j hy (by omega)
    have HFX := Lib.hid (HF.out (y ||| 2 ^ j) wr hor)
    have hlt : 2 ^ j < 18446744073709551616 := by
     have : 2 ^ j ≤ 2 ^ 40 := Nat.pow_le_pow_right (by omega) (by omega)
     have e : (2 : Nat) ^ 40 = 1099511627776 := by decide
     omega
    have hbits := bits_or_u64_nat y (2 ^ j) (by omega) hlt
    have HD : Hid (2 ^ j / 2 = bitOf j) := Lib.hid (by
     cases j with
     | zero => rfl
     | succ j => show 2 ^ (j + 1) / 2 = 2 ^ j; rw [Nat.pow_succ]; omega)
    have HS := Lib.hid (show rootGo fits (j + 1) y = rootGo fits j (if fits (y ||| 2 ^ j) = true then y ||| 2 ^ j else y) from rfl)
    generalize 2 ^ j = B at *
    generalize y ||| B = z at *
    cases hq : fits z
    · rw [hq] at HFX HS
      have HN := Lib.hid (show rootGo fits 41 0 = rootGo fits j y by rw [HR.out, HS.out]; rfl)
      clear hq
      go_wp2_with fail
      refine HFX.out.mono ?_
      rintro e w' ⟨rfl, rfl⟩
      go_wp2
      go_roundw
      case rel => exact ⟨y, j, rfl, by rw [← HD.out]; first | rfl | simp, by omega, hy, HN.out, by first | rfl | trivial⟩
      case measure => simp [intOf]; omega
    · rw [hq] at HFX HS
      have HN := Lib.hid (show rootGo fits 41 0 = rootGo fits j z by rw [HR.out, HS.out]; rfl)
      clear hq
      go_wp2_with fail
      refine HFX.out.mono ?_
      rintro e w' ⟨rfl, rfl⟩
      go_wp2
      go_roundw
      case rel => exact ⟨z, j, rfl, by rw [← HD.out]; first | rfl | simp, by omega, hor, HN.out, by first | rfl | trivial⟩
      case measure => simp [intOf]; omega
theorem cube_call (args : Array Value) (w : World) : (callFunc 143 args).run Tryz.prog w = .ok (.enter 143 args) w := by
 go_simp
theorem square_call (args : Array Value) (w : World) : (callFunc 144 args).run Tryz.prog w = .ok (.enter 144 args) w := by
 go_simp
def kWord (p : Nat) : Nat := rootGo (fun x => cubeB x p) 41 0 % 4294967296
def hWord (p : Nat) : Nat := rootGo (fun x => sqB x p) 41 0 % 4294967296
theorem root_cube (p : Nat) (hp : p < 1048576) (w : World) : Calls Tryz.prog 142 #[.int .u64 p, .func (.func 143) #[] #[]] w fun e w' => e = .returned (.int .u32 (kWord p)) ∧ w = w' :=
 root_any _ p (fun x => cubeB x p) cube_call (fun x w hx => cube_any x p hx hp w) w
theorem root_square (p : Nat) (hp : p < 1048576) (w : World) : Calls Tryz.prog 142 #[.int .u64 p, .func (.func 144) #[] #[]] w fun e w' => e = .returned (.int .u32 (hWord p)) ∧ w = w' :=
 root_any _ p (fun x => sqB x p) square_call (fun x w hx => square_any x p (by omega) w) w
theorem race_disable (w : World) : (callFunc 155 #[]).run Tryz.prog w = .ok (.value (.tuple #[])) w := run_call_mark0 Tryz.func155 (by kernel_rfl) (by kernel_rfl) (by kernel_rfl) .disable (by kernel_rfl) w
theorem race_enable (w : World) : (callFunc 157 #[]).run Tryz.prog w = .ok (.value (.tuple #[])) w := run_call_mark0 Tryz.func157 (by kernel_rfl) (by kernel_rfl) (by kernel_rfl) .enable (by kernel_rfl) w
theorem race_acquire (a : Addr) (w : World) : (callFunc 158 #[.pointer (some a)]).run Tryz.prog w = .ok (.value (.tuple #[])) w := run_call_marked Tryz.func158 (by kernel_rfl) (by kernel_rfl) (by kernel_rfl) .acquire (by kernel_rfl) a w
theorem race_release (a : Addr) (w : World) : (callFunc 160 #[.pointer (some a)]).run Tryz.prog w = .ok (.value (.tuple #[])) w := run_call_marked Tryz.func160 (by kernel_rfl) (by kernel_rfl) (by kernel_rfl) .releaseMerge (by kernel_rfl) a w
theorem store_deferred (a : Addr) (x : Value) (u : FrameMode) (w : World) (hc : w.cell? a = some x) (hz : w.frozen? a = false) :
 CallsD Tryz.prog 148 #[.pointer (some a), .bool true] u w fun e u' w' => u' = u ∧ (e = .returned (.tuple #[]) ∧ w' = w.drew.setCell a (.int .u32 1)) := by
 have hc' : w.drew.cell? a = some x := by go_simp
 have hz' : w.drew.frozen? a = false := by go_simp
 have hst := run_call_store (P := Tryz.prog) Tryz.func153 (by kernel_rfl) (by kernel_rfl) (by kernel_rfl) (by kernel_rfl) (k := .u32) (y := 1) hc' hz'
 go_enter_d Tryz.func148, Tryz.ntmps148
 go_wp2
 go_region_calls
 all_goals (go_end0; exact ⟨rfl, rfl⟩)
set_option maxRecDepth 100000 in
set_option maxHeartbeats 1000000 in
theorem unlock_deferred (a : Addr) (u : FrameMode) (w : World) (hc : w.cell? a = some (.int .i32 1)) (hz : w.frozen? a = false) :
 CallsD Tryz.prog 147 #[.pointer (some a)] u w fun e u' w' => u' = u ∧ (e = .returned (.tuple #[]) ∧ w' = w.setCell a (.int .i32 0)) := by
 have hd := race_disable
 have he := race_enable
 have hr := race_release
 have hadd := run_call_add (P := Tryz.prog) Tryz.func161 (by kernel_rfl) (by kernel_rfl) (by kernel_rfl) .i32 (by kernel_rfl) (y := -1) (s := 0) hc hz (by simp [go_sem]; rfl)
 have hcv := run_convert_to_unsafe (P := Tryz.prog) (src := 219) (dst := 223) Tryz.underlying219 Tryz.underlying223 (by kernel_rfl) hc
 go_enter_d Tryz.func147, Tryz.ntmps147
 go_wp2
 go_end0
 all_goals (try go_wp2)
 all_goals (try go_end0)
 all_goals exact ⟨rfl, rfl⟩
set_option maxRecDepth 100000 in
set_option maxHeartbeats 1000000 in
theorem lock_free (a : Addr) (w : World) (hc : w.cell? a = some (.int .i32 0)) (hz : w.frozen? a = false) :
 Calls Tryz.prog 146 #[.pointer (some a)] w fun e w' => e = .returned (.tuple #[]) ∧ w' = w.setCell a (.int .i32 1) := by
 have hd := race_disable
 have he := race_enable
 have ha := race_acquire
 have hcas := run_call_cas_hit (P := Tryz.prog) Tryz.func156 (by kernel_rfl) (by kernel_rfl) (by kernel_rfl) .i32 (by kernel_rfl) (y := 1) hc hz
 have hc' : (w.setCell a (.int .i32 1)).cell? a = some (.int .i32 1) := World.cell?_setCell_same w a _ hc
 have hcv := run_convert_to_unsafe (P := Tryz.prog) (src := 219) (dst := 223) Tryz.underlying219 Tryz.underlying223 (by kernel_rfl) hc'
 go_enter Tryz.func146, Tryz.ntmps146
 go_wp2
 first | go_end0 | (simp only [Exit.inBlock, Exit.then]; refine bodyPost_ret (results_none rfl _ _ _) rfl ?_) | refine bodyPost_ret (results_none rfl _ _ _) rfl ?_
 all_goals (try go_wp2)
 all_goals (try go_end0)
 all_goals exact ⟨rfl, rfl⟩
set_option maxRecDepth 100000 in
set_option maxHeartbeats 1600000 in
theorem slow_any (b off : Nat) (tp : Addr) (w : World) (Q : World → Prop)
 (h0 : w.cell? ⟨b, off, none⟩ = some (.int .u32 0)) (h1 : w.cell? ⟨b, off + 1, none⟩ = some (.int .i32 0))
 (f0 : w.frozen? ⟨b, off, none⟩ = false) (f1 : w.frozen? ⟨b, off + 1, none⟩ = false)
 (hG : Calls Tryz.prog 135 #[.pointer (some tp)] (w.setCell ⟨b, off + 1, none⟩ (.int .i32 1)) fun e w' => e = .returned (.tuple #[]) ∧ Q w')
 (hQ : ∀ w', Q w' → (w'.cell? ⟨b, off, none⟩ = some (.int .u32 0) ∧ w'.frozen? ⟨b, off, none⟩ = false) ∧ (w'.cell? ⟨b, off + 1, none⟩ = some (.int .i32 1) ∧ w'.frozen? ⟨b, off + 1, none⟩ = false)) :
 Calls Tryz.prog 140 #[.pointer (some ⟨b, off, none⟩), .func (.func 135) #[.pointer (some tp)] #[]] w fun e w' => e = .returned (.tuple #[]) ∧
  ∃ wq, Q wq ∧ w' = (wq.drew.setCell ⟨b, off, none⟩ (.int .u32 1)).setCell ⟨b, off + 1, none⟩ (.int .i32 0) := by
 have hl := run_call_load (P := Tryz.prog) Tryz.func145 (by kernel_rfl) (by kernel_rfl) (by kernel_rfl) .u32 (by kernel_rfl) (w := w.setCell ⟨b, off + 1, none⟩ (.int .i32 1)) (a := ⟨b, off, none⟩) (x := 0) ((World.cell?_setCell_other _ ⟨b, off + 1, none⟩ ⟨b, off, none⟩ _ (by simp)).trans h0)
 have hnot : ∀ (x : Bool) (w : World), (Op.unary .not (.bool x)).run Tryz.prog w = .ok (.bool (!x)) w := fun _ _ => rfl
 have HG := Lib.hid hG
 have HQ := Lib.hid hQ
 clear hG hQ
 go_enter_defers Tryz.func140, Tryz.ntmps140
 go_wp2_with (first | (go_at_call 146; refine (lock_free ⟨b, off + 1, none⟩ _ (by go_simp) (by go_simp)).mono ?_; rintro e w' ⟨rfl, rfl⟩) | (go_at_call 139; go_in) | (go_at_call 135; refine HG.out.mono ?_; rintro e wq ⟨rfl, hq⟩))
 obtain ⟨⟨c0, z0⟩, c1, z1⟩ := HQ.out wq hq
 refine leaves_cons (f := 148) (args := #[.pointer (some ⟨b, off, none⟩), .bool true]) (by simp) (by simp [go_sem]) ?_
 refine (store_deferred ⟨b, off, none⟩ (.int .u32 0) .returning _ c0 z0).mono ?_
 rintro e u' w'' ⟨rfl, rfl, rfl⟩
 refine leaves_cons (f := 147) (args := #[.pointer (some ⟨b, off + 1, none⟩)]) (by simp [settle]) (by simp [go_sem]) ?_
 refine (unlock_deferred ⟨b, off + 1, none⟩ _ _ ?_ (by simp [z1])).mono ?_
 · refine (World.cell?_setCell_other _ ⟨b, off, none⟩ ⟨b, off + 1, none⟩ _ (by simp)).trans ?_
   rw [World.cell?_drew]
   exact c1
 rintro e u' w'' ⟨rfl, rfl, rfl⟩
 simp [Leaves, settle, results, Tryz.results140]
 exact ⟨wq, hq, rfl⟩
set_option maxRecDepth 100000 in
set_option maxHeartbeats 1600000 in
theorem do_first (b off : Nat) (tp : Addr) (w : World) (Q : World → Prop)
 (h0 : w.cell? ⟨b, off, none⟩ = some (.int .u32 0)) (h1 : w.cell? ⟨b, off + 1, none⟩ = some (.int .i32 0))
 (f0 : w.frozen? ⟨b, off, none⟩ = false) (f1 : w.frozen? ⟨b, off + 1, none⟩ = false)
 (hG : Calls Tryz.prog 135 #[.pointer (some tp)] (w.setCell ⟨b, off + 1, none⟩ (.int .i32 1)) fun e w' => e = .returned (.tuple #[]) ∧ Q w')
 (hQ : ∀ w', Q w' → (w'.cell? ⟨b, off, none⟩ = some (.int .u32 0) ∧ w'.frozen? ⟨b, off, none⟩ = false) ∧ (w'.cell? ⟨b, off + 1, none⟩ = some (.int .i32 1) ∧ w'.frozen? ⟨b, off + 1, none⟩ = false)) :
 Calls Tryz.prog 134 #[.pointer (some ⟨b, off, none⟩), .func (.func 135) #[.pointer (some tp)] #[]] w fun e w' => e = .returned (.tuple #[]) ∧
  ∃ wq, Q wq ∧ w' = (wq.drew.setCell ⟨b, off, none⟩ (.int .u32 1)).setCell ⟨b, off + 1, none⟩ (.int .i32 0) := by
 have hl := run_call_load (P := Tryz.prog) Tryz.func145 (by kernel_rfl) (by kernel_rfl) (by kernel_rfl) .u32 (by kernel_rfl) h0
 have hnot : ∀ (x : Bool) (w : World), (Op.unary .not (.bool x)).run Tryz.prog w = .ok (.bool (!x)) w := fun _ _ => rfl
 have HS := Lib.hid (slow_any b off tp w Q h0 h1 f0 f1 hG hQ)
 clear hG hQ
 go_enter Tryz.func134, Tryz.ntmps134
 go_wp2_with (first | (go_at_call 140; refine HS.out.mono ?_; rintro e w' ⟨rfl, hq⟩) | (go_at_call 139; go_in))
 go_end0
 exact ⟨rfl, hq⟩
theorem do_done (a : Addr) (d : Int) (hd : ¬ d = 0) (fv : Value) (w : World) (h0 : w.cell? a = some (.int .u32 d)) :
 Calls Tryz.prog 134 #[.pointer (some a), fv] w fun e w' => e = .returned (.tuple #[]) ∧ w' = w := by
 have hl := run_call_load (P := Tryz.prog) Tryz.func145 (by kernel_rfl) (by kernel_rfl) (by kernel_rfl) .u32 (by kernel_rfl) h0
 have hnot : ∀ (x : Bool) (w : World), (Op.unary .not (.bool x)).run Tryz.prog w = .ok (.bool (!x)) w := fun _ _ => rfl
 have hd' : (d != 0) = true := by simp [hd]
 go_enter Tryz.func134, Tryz.ntmps134
 go_wp2
 go_end0
 exact ⟨rfl, rfl⟩
def InB (zs : List Int) : Prop := ∀ z ∈ zs, 0 ≤ z ∧ z ≤ 255
def eqB (xs ys : List Int) : Bool := decide (xs = ys)
theorem eqB_self (xs : List Int) : eqB xs xs = true := by simp [eqB]
theorem conv_u8 {P : Program} {w : World} {ao : Option Addr} {zs : List Int} {n : Nat} (cap : Nat) (src e dst : TypeId) (hs : P.underlying src = some (.slice e)) (he : P.underlying e = some (.int .u8)) (hd : P.underlying dst = some .string)
 (h : IntsAt .u8 w ao zs) (hn : zs.length = n) : (convert src dst (.slice ao n cap)).run P w = .ok (.string (strOfNums zs)) w := by
 cases ao with
 | none =>
   have h0 := ints_none h
   rw [run_convert_bytes_nil w src e hs he n cap dst hd, List.length_eq_zero_iff.1 h0]
   rfl
 | some a =>
   rcases h with rfl | ⟨b, off, hb, hc⟩
   · simp at hn; subst hn
     have hl : (loadCells a 0).run P w = .ok (([] : List Int).map (Value.int .u8)).toArray w := by
      have := run_loadCells_list (P := P) w a (([] : List Int).map (Value.int .u8)) (fun j v hj => by simp at hj)
      simpa using this
     rw [run_convert_bytes_string w src dst e _ 0 cap hs he hd, run_bytesToString w _ 0 cap [] hl]
     rfl
   · cases hb
     exact run_convert_bytes_arg w src e hs he b off n cap zs hn (fun i hi => hc i (by omega)) dst hd
theorem map_u8_inj : ∀ {xs ys : List Int}, InB xs → InB ys → (xs.map fun n => UInt8.ofNat n.toNat) = (ys.map fun n => UInt8.ofNat n.toNat) → xs = ys
 | [], [], _, _, _ => rfl
 | [], _ :: _, _, _, h => by simp at h
 | _ :: _, [], _, _, h => by simp at h
 | x :: xs, y :: ys, hx, hy, h => by
   simp only [List.map_cons, List.cons.injEq] at h
   have h1 := hx x (by simp)
   have h2 := hy y (by simp)
   have e : x = y := by
    have := congrArg UInt8.toNat h.1
    rw [UInt8.toNat_ofNat', UInt8.toNat_ofNat'] at this
    omega
   rw [e, map_u8_inj (fun z hz => hx z (by simp [hz])) (fun z hz => hy z (by simp [hz])) h.2]
theorem strOf_inj {xs ys : List Int} (hx : InB xs) (hy : InB ys) : ((strOfNums xs).toList == (strOfNums ys).toList) = eqB xs ys := by
 have hl : ∀ zs : List Int, (strOfNums zs).toList = zs.map fun n => UInt8.ofNat n.toNat := fun zs => by
  rw [← strOfNums_data]; exact ByteArray.toList_eq _
 rw [hl, hl, Bool.eq_iff_iff]
 simp only [beq_iff_eq, eqB, decide_eq_true_eq]
 exact ⟨map_u8_inj hx hy, fun h => by rw [h]⟩
set_option maxHeartbeats 400000 in
theorem bytes_eq (ao bo : Option Addr) (xs ys : List Int) (n m c d : Nat) (w : World) (hn : xs.length = n) (hm : ys.length = m) (hx : IntsAt .u8 w ao xs) (hy : IntsAt .u8 w bo ys) (rx : InB xs) (ry : InB ys) :
 Calls Tryz.prog 20 #[.slice ao n c, .slice bo m d] w fun e w' => e = .returned (.bool (eqB xs ys)) ∧ w = w' := by
 have h1 := conv_u8 (P := Tryz.prog) c 62 5 9 Tryz.underlying62 Tryz.underlying5 Tryz.underlying9 hx hn
 have h2 := conv_u8 (P := Tryz.prog) d 62 5 9 Tryz.underlying62 Tryz.underlying5 Tryz.underlying9 hy hm
 have HE := Lib.hid (strOf_inj rx ry)
 clear hn hm hx hy rx ry
 go_enter Tryz.func20, Tryz.ntmps20
 go_wp2
 go_ret
 exact ⟨ret_bool HE.out, rfl⟩
theorem inB_drop {zs : List Int} (h : InB zs) (k : Nat) : InB (zs.drop k) := fun z hz => h z (List.mem_of_mem_drop hz)
theorem inB_take {zs : List Int} (h : InB zs) (k : Nat) : InB (zs.take k) := fun z hz => h z (List.mem_of_mem_take hz)
theorem inB_app {xs ys : List Int} (h : InB xs) (h' : InB ys) : InB (xs ++ ys) := fun z hz => (List.mem_append.1 hz).elim (h z) (h' z)
theorem IntsAt.take {k : IntKind} {w : World} {ao : Option Addr} {zs : List Int} (h : IntsAt k w ao zs) (n : Nat) : IntsAt k w ao (zs.take n) := by
 rcases h with rfl | ⟨b, off, he, hc⟩
 · exact Or.inl (by simp)
 · refine Or.inr ⟨b, off, he, fun i hi => ?_⟩
   simp only [List.length_take] at hi
   rw [hc i (by omega)]
   simp [List.getD, List.getElem?_take, (by omega : i < n)]
theorem IntsAt.drop {k : IntKind} {w : World} {b off : Nat} {zs : List Int} (h : IntsAt k w (some ⟨b, off, none⟩) zs) (n : Nat) : IntsAt k w (some ⟨b, off + n, none⟩) (zs.drop n) := by
 rcases h with rfl | ⟨b', off', he, hc⟩
 · exact Or.inl (by simp)
 · cases he
   refine Or.inr ⟨b, off + n, rfl, fun i hi => ?_⟩
   simp only [List.length_drop] at hi
   rw [Nat.add_assoc, hc (n + i) (by omega)]
   simp [List.getD]
def findP : Nat → Nat → Nat
 | 0, p => p
 | f + 1, p => if primeB p = true then p else findP f (p + 1)
def pAt : Nat → Nat
 | 0 => 2
 | i + 1 => findP 40 (pAt i) + 1
theorem findP_ge : ∀ (f p : Nat), p ≤ findP f p
 | 0, _ => Nat.le_refl _
 | f + 1, p => by
   unfold findP
   split
   · exact Nat.le_refl _
   · have := findP_ge f (p + 1); omega
def qAt (i : Nat) : Nat := findP 40 (pAt i)
def kAt (i : Nat) : Int := (kWord (qAt i) : Nat)
def hAt (i : Nat) : Int := (hWord (qAt i) : Nat)
theorem primes_all : (List.range 64).all (fun i => primeB (qAt i) && decide (qAt i < 400) && decide (pAt i < 400)) = true := by decide +kernel
theorem primes_at (i : Nat) (h : i < 64) : primeB (qAt i) = true ∧ qAt i < 400 ∧ pAt i < 400 := by
 have h2 := List.all_eq_true.1 primes_all i (List.mem_range.2 h)
 simp only [Bool.and_eq_true, decide_eq_true_eq] at h2
 exact ⟨h2.1.1, h2.1.2, h2.2⟩
def Tab (w : World) (b : Nat) (d s : Int) (kv hv : Nat → Int) : Prop :=
 ∃ cs, w.heap[b]? = some (.cells cs 101 (0, 0)) ∧ cs.size = 75 ∧ cs[0]? = some (.int .u32 d) ∧ cs[1]? = some (.int .i32 s) ∧ (∀ j, j < 64 → cs[3 + j]? = some (.int .u32 (kv j))) ∧ (∀ j, j < 8 → cs[67 + j]? = some (.int .u32 (hv j)))
section
variable {w w' : World} {b : Nat} {d s : Int} {kv hv : Nat → Int}
theorem Tab.lt (h : Tab w b d s kv hv) : b < w.heap.size := by obtain ⟨_, h, _⟩ := h; exact blk_lt h
theorem Tab.same (h : Tab w b d s kv hv) (he : w'.heap[b]? = w.heap[b]?) : Tab w' b d s kv hv := by
 obtain ⟨cs, h1, h2⟩ := h
 exact ⟨cs, he.trans h1, h2⟩
theorem Tab.below (h : Tab w b d s kv hv) (hb : Below w.heap.size w w') : Tab w' b d s kv hv := h.same (hb.block _ h.lt)
theorem Tab.dn (h : Tab w b d s kv hv) : w.cell? ⟨b, 0, none⟩ = some (.int .u32 d) ∧ w.frozen? ⟨b, 0, none⟩ = false := by
 obtain ⟨cs, h1, _, h2, _⟩ := h
 exact ⟨(blk_cell h1 0).trans h2, blk_frozen h1 0⟩
theorem Tab.st (h : Tab w b d s kv hv) : w.cell? ⟨b, 1, none⟩ = some (.int .i32 s) ∧ w.frozen? ⟨b, 1, none⟩ = false := by
 obtain ⟨cs, h1, _, _, h2, _⟩ := h
 exact ⟨(blk_cell h1 1).trans h2, blk_frozen h1 1⟩
theorem Tab.kc (h : Tab w b d s kv hv) (j : Nat) (hj : j < 64) : w.cell? ⟨b, 3 + j, none⟩ = some (.int .u32 (kv j)) ∧ w.frozen? ⟨b, 3 + j, none⟩ = false := by
 obtain ⟨cs, h1, _, _, _, h2, _⟩ := h
 exact ⟨(blk_cell h1 _).trans (h2 j hj), blk_frozen h1 _⟩
theorem Tab.hc (h : Tab w b d s kv hv) (j : Nat) (hj : j < 8) : w.cell? ⟨b, 67 + j, none⟩ = some (.int .u32 (hv j)) ∧ w.frozen? ⟨b, 67 + j, none⟩ = false := by
 obtain ⟨cs, h1, _, _, _, _, h2⟩ := h
 exact ⟨(blk_cell h1 _).trans (h2 j hj), blk_frozen h1 _⟩
theorem Tab.setK (h : Tab w b d s kv hv) (i : Nat) (hi : i < 64) (v : Int) : Tab (w.setCell ⟨b, 3 + i, none⟩ (.int .u32 v)) b d s (fun j => if j = i then v else kv j) hv := by
 obtain ⟨cs, h1, h2, h3, h4, h5, h6⟩ := h
 refine ⟨_, blk_set h1 (3 + i) _, by simpa using h2, ?_, ?_, fun j hj => ?_, fun j hj => ?_⟩
 · rw [Array.getElem?_setIfInBounds_ne (by omega)]; exact h3
 · rw [Array.getElem?_setIfInBounds_ne (by omega)]; exact h4
 · by_cases e : j = i
   · subst e
     rw [Array.getElem?_setIfInBounds_self, if_pos (by omega)]; simp
   · show _ = some (Value.int .u32 (if j = i then v else kv j))
     rw [Array.getElem?_setIfInBounds_ne (by omega), if_neg e]; exact h5 j hj
 · rw [Array.getElem?_setIfInBounds_ne (by omega)]; exact h6 j hj
theorem Tab.setH (h : Tab w b d s kv hv) (i : Nat) (hi : i < 8) (v : Int) : Tab (w.setCell ⟨b, 67 + i, none⟩ (.int .u32 v)) b d s kv (fun j => if j = i then v else hv j) := by
 obtain ⟨cs, h1, h2, h3, h4, h5, h6⟩ := h
 refine ⟨_, blk_set h1 (67 + i) _, by simpa using h2, ?_, ?_, fun j hj => ?_, fun j hj => ?_⟩
 · rw [Array.getElem?_setIfInBounds_ne (by omega)]; exact h3
 · rw [Array.getElem?_setIfInBounds_ne (by omega)]; exact h4
 · rw [Array.getElem?_setIfInBounds_ne (by omega)]; exact h5 j hj
 · by_cases e : j = i
   · subst e
     rw [Array.getElem?_setIfInBounds_self, if_pos (by omega)]; simp
   · show _ = some (Value.int .u32 (if j = i then v else hv j))
     rw [Array.getElem?_setIfInBounds_ne (by omega), if_neg e]; exact h6 j hj
theorem Tab.setD (h : Tab w b d s kv hv) (v : Int) : Tab (w.setCell ⟨b, 0, none⟩ (.int .u32 v)) b v s kv hv := by
 obtain ⟨cs, h1, h2, h3, h4, h5, h6⟩ := h
 refine ⟨_, blk_set h1 0 _, by simpa using h2, ?_, ?_, fun j hj => ?_, fun j hj => ?_⟩
 · rw [Array.getElem?_setIfInBounds_self, if_pos (by omega)]
 · rw [Array.getElem?_setIfInBounds_ne (by omega)]; exact h4
 · rw [Array.getElem?_setIfInBounds_ne (by omega)]; exact h5 j hj
 · rw [Array.getElem?_setIfInBounds_ne (by omega)]; exact h6 j hj
theorem Tab.setS (h : Tab w b d s kv hv) (v : Int) : Tab (w.setCell ⟨b, 1, none⟩ (.int .i32 v)) b d v kv hv := by
 obtain ⟨cs, h1, h2, h3, h4, h5, h6⟩ := h
 refine ⟨_, blk_set h1 1 _, by simpa using h2, ?_, ?_, fun j hj => ?_, fun j hj => ?_⟩
 · rw [Array.getElem?_setIfInBounds_ne (by omega)]; exact h3
 · rw [Array.getElem?_setIfInBounds_self, if_pos (by omega)]
 · rw [Array.getElem?_setIfInBounds_ne (by omega)]; exact h5 j hj
 · rw [Array.getElem?_setIfInBounds_ne (by omega)]; exact h6 j hj
theorem Tab.to (h : Tab w b d s kv hv) {kv' hv' : Nat → Int} (hk : ∀ j, j < 64 → kv j = kv' j) (hh : ∀ j, j < 8 → hv j = hv' j) : Tab w b d s kv' hv' := by
 obtain ⟨cs, h1, h2, h3, h4, h5, h6⟩ := h
 exact ⟨cs, h1, h2, h3, h4, fun j hj => by rw [← hk j hj]; exact h5 j hj, fun j hj => by rw [← hh j hj]; exact h6 j hj⟩
end
set_option maxRecDepth 100000 in
set_option maxHeartbeats 2000000 in
theorem reckon_any (b : Nat) (d s : Int) (kv hv : Nat → Int) (w : World) (h : Tab w b d s kv hv) :
 Calls Tryz.prog 135 #[.pointer (some ⟨b, 0, none⟩)] w fun e w' => e = .returned (.tuple #[]) ∧ Tab w' b d s kAt hAt ∧ Keeps (fun i => i = b) w w' := by
 have H := Lib.hid h
 clear h
 go_enter Tryz.func135, Tryz.ntmps135
 go_wp2_with fail
 go_loopw [2, 4] (fun p i wr => ∃ k : Nat, k ≤ 64 ∧ p = .int .u64 (pAt k) ∧ i = .int .i64 k ∧ Tab wr b d s (fun j => if j < k then kAt j else kv j) (fun j => if j < k then hAt j else hv j) ∧ Keeps (fun i => i = b) w wr) (fun _ i _ => 64 - (intOf i).toNat)
 case atStart => exact ⟨0, Nat.zero_le _, rfl, rfl, H.out.to (fun j _ => by simp) (fun j _ => by simp), Keeps.refl _ _⟩
 case round =>
  obtain ⟨k, hk, rfl, rfl, ht, hkp⟩ := hrel
  have HT := Lib.hid ht
  have HKP := Lib.hid hkp
  clear ht hkp
  by_cases hlt : k < 64
  · obtain ⟨hp1, hp2, hp3⟩ := primes_at k hlt
    have HP1 := Lib.hid hp1
    have HPN := Lib.hid (show pAt (k + 1) = qAt k + 1 from rfl)
    have HQ0 := Lib.hid (show findP 40 (pAt k) = qAt k from rfl)
    have HKV := Lib.hid (show kAt k = ((kWord (qAt k) : Nat) : Int) from rfl)
    have HHV := Lib.hid (show hAt k = ((hWord (qAt k) : Nat) : Int) from rfl)
    generalize pAt k = P at *
    generalize qAt k = Q at *
    clear hp1
    have j0 : (0 : Int) ≤ (k : Int) := by omega
    have j1 : (k : Int) < 64 := by omega
    go_wp2_with fail
    go_loopw [2] (fun p wi => ∃ x f : Nat, p = .int .u64 x ∧ findP f x = Q ∧ wi = wr) (fun p _ => 500 - (intOf p).toNat)
    case atStart => exact ⟨P, 40, rfl, HQ0.out, rfl⟩
    case round =>
     obtain ⟨x, f, rfl, hf, rfl⟩ := hrel
     have hxQ : x ≤ Q := by rw [← hf]; exact findP_ge f x
     have HFX := Lib.hid hf
     have HPX := Lib.hid (prime_any x (by omega) wr)
     clear hf
     cases hpx : primeB x
     · have HNX : Hid (∃ f', findP f' (x + 1) = Q) := Lib.hid (by
        cases f with
        | zero =>
          have e : x = Q := HFX.out
          rw [e, HP1.out] at hpx; cases hpx
        | succ f' =>
          refine ⟨f', ?_⟩
          have e := HFX.out
          unfold findP at e
          rwa [hpx, if_neg (by decide)] at e)
       obtain ⟨f', hf'⟩ := HNX.out
       have HF' := Lib.hid hf'
       have hxQ' : x + 1 ≤ Q := by rw [← hf']; exact findP_ge f' (x + 1)
       rw [hpx] at HPX
       clear hpx hf'
       go_wp2_with fail
       refine HPX.out.mono ?_
       rintro e w' ⟨rfl, rfl⟩
       go_wp2
       go_roundw
       case rel => exact ⟨x + 1, f', by go_num, HF'.out, by first | rfl | trivial⟩
       case measure => simp [intOf]; omega
     · have HXQ : Hid (x = Q) := Lib.hid (by
        have e := HFX.out
        cases f with
        | zero => exact e
        | succ f' => unfold findP at e; rwa [hpx, if_pos rfl] at e)
       obtain rfl := HXQ.out
       rw [hpx] at HPX
       clear hpx HXQ HFX
       obtain ⟨c0, f0⟩ := HT.out.kc k hlt
       have HRC := Lib.hid (root_cube x (by omega))
       have HSQ := Lib.hid (root_square x (by omega))
       go_wp2_with fail
       refine HPX.out.mono ?_
       rintro e w' ⟨rfl, rfl⟩
       go_wp2_with fail
       go_region_held3 (fun _ => True) (trivial) (first | (go_at_call 142; refine (HRC.out _).mono ?_; rintro e w' ⟨rfl, rfl⟩))
       have HT6 := Lib.hid ((HT.out.setK k hlt (kWord x)).same (w' := (wr.setCell ⟨b, 3 + k, none⟩ (.int .u32 (kWord x))).drew) rfl)
       have HK6 := Lib.hid (HKP.out.trans (((Keeps.refl (fun i => i = b) wr).setCell (p := ⟨b, 3 + k, none⟩) (Or.inl rfl) (.int .u32 (kWord x))).drew) (fun i hi => Or.inl hi))
       obtain ⟨w6, hw6⟩ : ∃ w6, w6 = (wr.setCell ⟨b, 3 + k, none⟩ (.int .u32 (kWord x))).drew := ⟨_, rfl⟩
       rw [← hw6] at HT6 HK6 ⊢
       clear hw6
       go_upto_if 20 with fail
       go_cut [] (fun wx => Tab wx b d s (fun j => if j < k + 1 then kAt j else kv j) (fun j => if j < k + 1 then hAt j else hv j) ∧ Keeps (fun i => i = b) w wx)
       case first =>
        by_cases h8 : k < 8
        · have h8' : (k : Int) < 8 := by omega
          obtain ⟨c8, f8⟩ := HT6.out.hc k h8
          go_wp2_with fail
          go_region_held3 (fun _ => True) (trivial) (first | (go_at_call 142; refine (HSQ.out _).mono ?_; rintro e w' ⟨rfl, rfl⟩))
          have HT8 := Lib.hid ((HT6.out.setH k h8 (hWord x)).same (w' := (w6.setCell ⟨b, 67 + k, none⟩ (.int .u32 (hWord x))).drew) rfl)
          have HK8 := Lib.hid (HK6.out.trans (((Keeps.refl (fun i => i = b) w6).setCell (p := ⟨b, 67 + k, none⟩) (Or.inl rfl) (.int .u32 (hWord x))).drew) (fun i hi => Or.inl hi))
          go_wp2_with fail
          go_meet
          case rel =>
           refine ⟨HT8.out.to (fun j hj => ?_) (fun j hj => ?_), HK8.out⟩
           · by_cases e : j = k
             · subst e; simp [HKV.out]
             · simp only [e, if_false]
               by_cases e2 : j < k
               · rw [if_pos e2, if_pos (by omega)]
               · rw [if_neg e2, if_neg (by omega)]
           · by_cases e : j = k
             · subst e; simp [HHV.out]
             · simp only [e, if_false]
               by_cases e2 : j < k
               · rw [if_pos e2, if_pos (by omega)]
               · rw [if_neg e2, if_neg (by omega)]
        · have h8' : ¬ (k : Int) < 8 := by omega
          go_wp2_with fail
          go_meet
          case rel =>
           refine ⟨HT6.out.to (fun j hj => ?_) (fun j hj => ?_), HK6.out⟩
           · by_cases e : j = k
             · subst e; simp [HKV.out]
             · simp only [e, if_false]
               by_cases e2 : j < k
               · rw [if_pos e2, if_pos (by omega)]
               · rw [if_neg e2, if_neg (by omega)]
           · rw [if_pos (by omega), if_pos (by omega)]
       case rest =>
        obtain ⟨hct, hck⟩ := hcut
        have HCT := Lib.hid hct
        have HCK := Lib.hid hck
        clear hct hck
        go_wp2
        go_roundw
        case rel => exact ⟨k + 1, by omega, by rw [HPN.out]; go_num, by go_num, HCT.out, HCK.out⟩
        case measure => simp [intOf]; omega
  · obtain rfl : k = 64 := by omega
    have HFT : Hid (Tab wr b d s kAt hAt) := Lib.hid (HT.out.to (fun j hj => by simp [hj]) (fun j hj => by simp; intro h; omega))
    go_wp2
    go_end0
    exact ⟨rfl, HFT.out, HKP.out⟩
end Go.Proofs.YtkaciaehlibidaaGreat
