/- Law 10: first. -/
import Derived.Test.YtbhoakohpfdeoaaGreatEs8
namespace Go.Proofs.YtbhoakohpfdeoaaGreat
open Go.RowKit
set_option linter.unusedVariables false
set_option linter.unusedSimpArgs false

theorem sha78 : shaS (secS 8) ≠ shaS (secS 7) := by
  have : decide (shaS (secS 8) = shaS (secS 7)) = false := by decide +kernel
  exact of_decide_eq_false this
def X10 (st : Int) (sec : ByteArray) : XR := ⟨0, 1, 0, 3, 10, st, shaS (secS 7), sec⟩
def B10 (h : Nat) : Nat → Nat → Int := takeN 2 1 (balOf (ex9 h)) 0 0 3
theorem ex10_take (h : Nat) : takeE 2 1 (balOf (ex9 h)) 0 0 3 = 0 := by kernel_rfl
theorem ex10_give (h : Nat) : giveE 2 1 (B10 h) 1 0 3 = 0 ∧ getB 2 1 (giveN 2 1 (B10 h) 1 0 3) 1 0 = 3 ∧ tot (balOf (ex9 h)) 0 2 = 5 := ⟨by kernel_rfl, by kernel_rfl, by kernel_rfl⟩
theorem ex10_lock (h : Nat) : lockE 2 1 (balOf (ex9 h)) 0 1 0 3 (shaS (secS 7)) 10 2 = 0 := by
  unfold lockE
  rw [if_pos (by decide), if_pos (shaS_size _), if_neg (by decide), if_neg (by decide)]
  exact ex10_take h
theorem ex10_id (x : XR) : idB [x] 0 = true := by unfold idB; simp
theorem ex10_at (x : XR) : atX [x] 0 = x := rfl
theorem ex10_c1 (b : Nat → Nat → Int) : claimE 2 1 b [X10 0 ⟨#[]⟩] 1 0 (secS 7) 10 = 11 := by
  unfold claimE
  rw [if_pos (ex10_id _), ex10_at, if_pos (show (1 : Int) = (X10 0 ⟨#[]⟩).t from rfl), if_pos (show (X10 0 ⟨#[]⟩).s = 0 from rfl), if_neg]
  intro h
  have h2 : (10 : Int) < 10 := h.2
  omega
theorem ex10_c2 (b : Nat → Nat → Int) : claimE 2 1 b [X10 0 ⟨#[]⟩] 1 0 (secS 8) 9 = 10 := by
  unfold claimE
  rw [if_pos (ex10_id _), ex10_at, if_pos (show (1 : Int) = (X10 0 ⟨#[]⟩).t from rfl), if_pos (show (X10 0 ⟨#[]⟩).s = 0 from rfl), if_pos ⟨by decide, show (9 : Int) < 10 by omega⟩, if_pos (secS_size _), if_neg (show ¬ shaS (secS 8) = (X10 0 ⟨#[]⟩).h from sha78)]
theorem ex10_c3 (h : Nat) : claimE 2 1 (B10 h) [X10 0 ⟨#[]⟩] 1 0 (secS 7) 9 = 0 := by
  unfold claimE
  rw [if_pos (ex10_id _), ex10_at, if_pos (show (1 : Int) = (X10 0 ⟨#[]⟩).t from rfl), if_pos (show (X10 0 ⟨#[]⟩).s = 0 from rfl), if_pos ⟨by decide, show (9 : Int) < 10 by omega⟩, if_pos (secS_size _), if_pos (show shaS (secS 7) = (X10 0 ⟨#[]⟩).h from rfl)]
  exact (ex10_give h).1

set_option maxRecDepth 100000 in
set_option maxHeartbeats 4000000 in
theorem first10_any (w : World) : Calls Tryz.prog 4 #[] w fun e w' => e = .returned (.bool true) ∧ Below w.heap.size w w' := by
  obtain ⟨w3, hw3⟩ : ∃ w3, w3 = world2 w 5 0 := ⟨_, rfl⟩
  have hb3 : Below w.heap.size w w3 := by subst hw3; exact world2_below w 5 0
  have hi : IntsList w3 (some ⟨w.heap.size + 2, 0, none⟩) (ex9 w.heap.size) := by subst hw3; exact world2_rows w 5 0 (by decide) (by decide)
  have HN := Lib.hid (made_yes (some ⟨w.heap.size + 2, 0, none⟩) (ex9 w.heap.size) 2 2 1 w3 rfl hi (ex9_may _) rfl)
  have HB := Lib.hid hb3
  have HLE := Lib.hid (ex10_lock w.heap.size)
  have HLB : Hid (lockB 2 1 (balOf (ex9 w.heap.size)) 0 1 0 3 (shaS (secS 7)) 10 2 = B10 w.heap.size) := Lib.hid (by unfold lockB; rw [if_pos (ex10_lock _)]; rfl)
  have HLL : Hid (lockL 2 1 (balOf (ex9 w.heap.size)) [] 0 1 0 3 (shaS (secS 7)) 10 2 = [X10 0 ⟨#[]⟩]) := Lib.hid (by unfold lockL; rw [if_pos (ex10_lock _)]; rfl)
  have HLI : Hid (lockI 2 1 (balOf (ex9 w.heap.size)) [] 0 1 0 3 (shaS (secS 7)) 10 2 = 0) := Lib.hid (by unfold lockI; rw [if_pos (ex10_lock _)]; rfl)
  have HC1 := Lib.hid (ex10_c1 (B10 w.heap.size))
  have HC1B : Hid (claimB 2 1 (B10 w.heap.size) [X10 0 ⟨#[]⟩] 1 0 (secS 7) 10 = B10 w.heap.size ∧ claimL 2 1 (B10 w.heap.size) [X10 0 ⟨#[]⟩] 1 0 (secS 7) 10 = [X10 0 ⟨#[]⟩]) := Lib.hid (by unfold claimB claimL; rw [ex10_c1]; exact ⟨rfl, rfl⟩)
  have HC2 := Lib.hid (ex10_c2 (B10 w.heap.size))
  have HC2B : Hid (claimB 2 1 (B10 w.heap.size) [X10 0 ⟨#[]⟩] 1 0 (secS 8) 9 = B10 w.heap.size ∧ claimL 2 1 (B10 w.heap.size) [X10 0 ⟨#[]⟩] 1 0 (secS 8) 9 = [X10 0 ⟨#[]⟩]) := Lib.hid (by unfold claimB claimL; rw [ex10_c2]; exact ⟨rfl, rfl⟩)
  have HC3 := Lib.hid (ex10_c3 w.heap.size)
  have HC3B : Hid (claimB 2 1 (B10 w.heap.size) [X10 0 ⟨#[]⟩] 1 0 (secS 7) 9 = giveN 2 1 (B10 w.heap.size) 1 0 3) := Lib.hid (by unfold claimB; rw [if_pos (ex10_c3 _)]; rfl)
  have HGV := Lib.hid (ex10_give w.heap.size)
  have HTX : Hid (textX ⟨0, 0, 0, 0, 0, 0, 0, 0, ⟨#[]⟩, true, 7⟩ = shaS (secS 7)) := Lib.hid rfl
  unfold world2 at hw3
  have HW := Lib.hid hw3
  clear hi hb3 hw3
  generalize shaS (secS 7) = hh at *
  generalize balOf (ex9 w.heap.size) = b0 at *
  generalize B10 w.heap.size = b1 at *
  go_enter Tryz.func4, Tryz.ntmps4
  go_wp2_with fail
  rw [← HW.out]
  refine HN.out.mono ?_
  rintro e w4 ⟨S, B, tb, q, rfl, he⟩
  have HE := Lib.hid (he.from_ HB.out)
  clear he
  go_wp2_with fail
  refine (HE.out.purse).mono ?_
  rintro e w5 ⟨rfl, rfl⟩
  go_wp2_with fail
  refine (text_any ⟨0, 0, 0, 0, 0, 0, 0, 0, ⟨#[]⟩, true, 7⟩ _).mono ?_
  rintro e w5 ⟨rfl, hb5⟩
  rw [HTX.out]
  have HE5 := Lib.hid (HE.out.below hb5)
  clear hb5 HE
  go_wp2_with fail
  refine (HE5.out.lock (by simp) 0 1 0 3 hh 10 2).mono ?_
  rintro e w6 ⟨rfl, S6, h6, _, _⟩
  rw [HLI.out, HLE.out]
  rw [HLB.out, HLL.out] at h6
  have HE6 := Lib.hid h6
  clear h6 HE5
  go_wp2_with fail
  refine (secret_any 7 _).mono ?_
  rintro e w7 ⟨rfl, hb7⟩
  have HE7 := Lib.hid (HE6.out.below hb7)
  clear hb7 HE6
  go_wp2_with fail
  refine (HE7.out.claim 1 0 (secS 7) 10).mono ?_
  rintro e w8 ⟨rfl, S8, h8, _, _⟩
  rw [HC1.out]
  rw [HC1B.out.1, HC1B.out.2] at h8
  have HE8 := Lib.hid h8
  clear h8 HE7
  go_wp2_with fail
  refine (secret_any 8 _).mono ?_
  rintro e w9 ⟨rfl, hb9⟩
  have HE9 := Lib.hid (HE8.out.below hb9)
  clear hb9 HE8
  go_wp2_with fail
  refine (HE9.out.claim 1 0 (secS 8) 9).mono ?_
  rintro e w10 ⟨rfl, S10, h10, _, _⟩
  rw [HC2.out]
  rw [HC2B.out.1, HC2B.out.2] at h10
  have HE10 := Lib.hid h10
  clear h10 HE9
  go_wp2_with fail
  refine (secret_any 7 _).mono ?_
  rintro e w11 ⟨rfl, hb11⟩
  have HE11 := Lib.hid (HE10.out.below hb11)
  clear hb11 HE10
  go_wp2_with fail
  refine (HE11.out.claim 1 0 (secS 7) 9).mono ?_
  rintro e w12 ⟨rfl, S12, h12, _, _⟩
  rw [HC3.out]
  rw [HC3B.out] at h12
  have HE12 := Lib.hid h12
  clear h12 HE11
  go_wp2_with fail
  refine (HE12.out.purse).mono ?_
  rintro e w13 ⟨rfl, rfl⟩
  go_wp2_with fail
  refine (HE12.out.has 1 0).mono ?_
  rintro e w13 ⟨rfl, rfl⟩
  rw [HGV.out.2.1]
  go_wp2_with fail
  refine (HE12.out.total 0).mono ?_
  rintro e w13 ⟨rfl, hb13⟩
  have HTT : Hid (allX 2 1 (giveN 2 1 b1 1 0 3) (claimL 2 1 b1 [X10 0 ⟨#[]⟩] 1 0 (secS 7) 9) 0 = 5) := Lib.hid (((HE12.out.inv.bound 0).2.2 0 rfl (by omega)).trans HGV.out.2.2)
  rw [HTT.out]
  have HB13 := Lib.hid (below_step HE12.out.bel hb13)
  clear hb13
  go_wp2
  go_ret
  exact ⟨rfl, HB13.out⟩

end Go.Proofs.YtbhoakohpfdeoaaGreat
