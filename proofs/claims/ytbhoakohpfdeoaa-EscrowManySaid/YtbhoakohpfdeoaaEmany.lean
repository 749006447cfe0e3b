/- EscrowMany: the walk. -/
import Derived.Test.YtbhoakohpfdeoaaEmany0
import Derived.Test.YtbhoakohpfdeoaaEtot0
namespace Go.Proofs.Ytbhoakohpfdeoaa
open Go.RowKit
set_option linter.unusedVariables false
set_option linter.unusedSimpArgs false

set_option maxRecDepth 100000 in
set_option maxHeartbeats 8000000 in
theorem walk_escrowMany (W : World) (ao : Option Addr) (xs : List Int) (cap : Nat) (h : IntsAt .i64 W ao xs) (hcap : xs.length ≤ cap) (hwf : cap ≤ maxLen ∧ ∀ n ∈ xs, (Lit.int .i64 n).wf = true)
    (co : Option Addr) (cs : List Bool) (m ccap : Nat) (hm : cs.length = m) (h2 : BoolsAt W co cs) (hmc : m ≤ ccap) (hcm : ccap ≤ maxLen) :
    Calls Try.prog 7 #[.slice ao xs.length cap, .slice co m ccap] W fun e w' => e = .returned (.bool true) ∧ Below W.heap.size W w' := by
  have HOUT : Hid (∀ w1, Below W.heap.size W w1 → Calls Try.prog 23 #[] w1 fun e w' => e = .returned (.bool true) ∧ Below W.heap.size W w') := Lib.hid (fun w1 h1 => (first10_any w1).mono (fun e w' h => ⟨h.1, below_step h1 h.2⟩))
  have HI := Lib.hid h
  have HC := Lib.hid h2
  have HM := Lib.hid hm
  obtain ⟨n, hn⟩ : ∃ n, n = xs.length := ⟨_, rfl⟩
  rw [← hn]
  have HN := Lib.hid hn
  have HML : Hid (m ≤ maxLen ∧ n ≤ maxLen) := Lib.hid ⟨Nat.le_trans hmc hcm, by rw [hn]; exact Nat.le_trans hcap hwf.1⟩
  clear h h2 hm hwf hcap hmc hcm hn
  by_cases h60 : 60 < n
  · have n1 : (60 : Int) < (n : Int) := by omega
    clear h60
    go_enter Try.func7, Try.ntmps7
    go_wp2_with fail
    refine (HOUT.out W (Below.refl _ _)).mono ?_
    rintro e w1 ⟨rfl, hb1⟩
    have HB1 := Lib.hid hb1
    clear hb1
    go_wp2_with fail
    refine (HOUT.out w1 HB1.out).mono ?_
    rintro e w2 ⟨rfl, hb2⟩
    have HB2 := Lib.hid hb2
    clear hb2
    go_wp2
    go_ret
    exact ⟨rfl, HB2.out⟩
  have n1 : (n : Int) ≤ 60 := by omega
  by_cases hmn : m < n
  · have n2 : (m : Int) < (n : Int) := by omega
    clear h60 hmn
    go_enter Try.func7, Try.ntmps7
    go_wp2_with fail
    refine (HOUT.out W (Below.refl _ _)).mono ?_
    rintro e w1 ⟨rfl, hb1⟩
    have HB1 := Lib.hid hb1
    clear hb1
    go_wp2_with fail
    refine (HOUT.out w1 HB1.out).mono ?_
    rintro e w2 ⟨rfl, hb2⟩
    have HB2 := Lib.hid hb2
    clear hb2
    go_wp2
    go_ret
    exact ⟨rfl, HB2.out⟩
  have n2 : (n : Int) ≤ (m : Int) := by omega
  have H60 : Hid (n ≤ 60 ∧ n ≤ m) := Lib.hid ⟨by omega, by omega⟩
  clear h60 hmn
  have HMD := Lib.hid made3
  unfold world3 at HMD
  go_enter Try.func7, Try.ntmps7
  go_wp2_with fail
  refine (HOUT.out W (Below.refl _ _)).mono ?_
  rintro e w1 ⟨rfl, hb1⟩
  have HB1 := Lib.hid hb1
  clear hb1
  go_wp2_with fail
  refine (HMD.out w1).mono ?_
  rintro e w2 ⟨S0, B, tb, q, rfl, he⟩
  have HE0 := Lib.hid (he.from_ HB1.out)
  clear he HMD
  go_wp2_with fail
  refine (HE0.out.purse).mono ?_
  rintro e w3 ⟨rfl, rfl⟩
  go_upto_region 9 with fail
  obtain ⟨Z, hZ⟩ : ∃ Z : Int, Z = 100000 := ⟨_, rfl⟩
  have HZ := Lib.hid hZ
  obtain ⟨V, hV⟩ : ∃ V, V = w2.heap.size := ⟨_, rfl⟩
  obtain ⟨w4, hw4⟩ : ∃ w4, w4 = w2.alloc (.cells #[.int .i64 100000, .int .i64 100000, .int .i64 100000] 3) := ⟨_, rfl⟩
  rw [← hw4, ← hV]
  have hb4 : Below w2.heap.size w2 w4 := by rw [hw4]; exact (Below.refl _ _).alloc (Nat.le_refl _) _
  have HV4 : Hid (WBox S0 W w4 V (fun _ => Z)) := Lib.hid ⟨by rw [hw4, hV, hZ]; exact heap_alloc_new _ _, fun hh => by have := HE0.out.lt V hh; omega, by rw [hV]; exact HE0.out.bel.size⟩
  have HE4 := Lib.hid (HE0.out.below hb4)
  clear hw4 hb4 hV hZ HE0 HB1
  have HTX : Hid (textX ⟨0, 0, 0, 0, 0, 0, 0, 0, ⟨#[]⟩, true, 3⟩ = shaS (secS 3)) := Lib.hid rfl
  go_wp2_with fail
  refine (text_any ⟨0, 0, 0, 0, 0, 0, 0, 0, ⟨#[]⟩, true, 3⟩ _).mono ?_
  rintro e w5 ⟨rfl, hb5⟩
  rw [HTX.out]
  obtain ⟨hh, hhh⟩ : ∃ hh, hh = shaS (secS 3) := ⟨_, rfl⟩
  rw [← hhh]
  have HH := Lib.hid hhh
  have HE5 := Lib.hid (HE4.out.below hb5)
  have HV5 := Lib.hid (HV4.out.below hb5)
  clear hhh hb5 HE4 HV4 HTX
  go_wp2_with fail
  go_loopw [8, 9] (fun s i wr => ∃ j : Nat, j ≤ n ∧ s = .int .i64 j ∧ i = .int .i64 j ∧ ∃ S b l, EB S W wr 3 1 b l (fun j => tot bM j 3) B tb q ∧ WBox S W wr V (fun _ => Z) ∧ MInv xs hh j 0 b l (fun _ => Z) ∧ ∀ k, k < j → 1 ≤ xs.getD k 0 ∧ xs.getD k 0 ≤ 1000) (fun _ i _ => n - (intOf i).toNat)
  case atStart => exact ⟨0, by omega, rfl, rfl, S0, bM, [], HE5.out, HV5.out, MInv.start (fun p hp => by rw [bM_at p hp]; exact HZ.out), fun k hk => absurd hk (by omega)⟩
  case round =>
    obtain ⟨j, hj, rfl, rfl, S, b, l, he, hv, hmi, hxs⟩ := hrel
    have HE := Lib.hid he
    have HV := Lib.hid hv
    have HJ := Lib.hid hmi
    have HX := Lib.hid hxs
    clear he hv hmi hxs HE5 HV5
    by_cases hlt : j < n
    · have b0 : (0 : Int) ≤ (j : Int) := by omega
      have b1 : (j : Int) < (n : Int) := by omega
      have HLT := Lib.hid hlt
      obtain ⟨ab, aoff, rfl, hcell⟩ : ∃ ab aoff, ao = some ⟨ab, aoff, none⟩ ∧ wr.cell? ⟨ab, aoff + j, none⟩ = some (.int .i64 (xs.getD j 0)) := by
        have hjx : j < xs.length := by rw [← HN.out]; exact hlt
        rcases ints_below HI.out HE.out.bel with h | ⟨ab, aoff, h1, h2⟩
        · rw [h] at hjx; simp at hjx
        · exact ⟨ab, aoff, h1, h2 j hjx⟩
      obtain ⟨x, hx⟩ : ∃ x, x = xs.getD j 0 := ⟨_, rfl⟩
      rw [← hx] at hcell
      have HXX := Lib.hid hx
      clear hx hlt
      by_cases x1 : x < 1
      · go_wp2_with fail
        refine (HOUT.out wr HE.out.bel).mono ?_
        rintro e w6 ⟨rfl, hb6⟩
        have HB6 := Lib.hid hb6
        clear hb6
        go_wp2
        go_ret
        exact ⟨rfl, HB6.out⟩
      by_cases x2 : 1000 < x
      · go_wp2_with fail
        refine (HOUT.out wr HE.out.bel).mono ?_
        rintro e w6 ⟨rfl, hb6⟩
        have HB6 := Lib.hid hb6
        clear hb6
        go_wp2
        go_ret
        exact ⟨rfl, HB6.out⟩
      have HXB : Hid (1 ≤ x ∧ x ≤ 1000) := Lib.hid ⟨by omega, by omega⟩
      have hL := HJ.out.lock (by have := HLT.out; have := H60.out; omega) (fun _ _ => HZ.out) (by rw [← HXX.out]; exact HXB.out.1) (by rw [← HXX.out]; exact HXB.out.2) (by rw [HH.out]; exact shaS_size _)
      rw [← HXX.out] at hL
      obtain ⟨u, hu⟩ : ∃ u, u = j % 3 := ⟨_, rfl⟩
      obtain ⟨v, hv⟩ : ∃ v, v = (j + 1) % 3 := ⟨_, rfl⟩
      rw [← hu, ← hv] at hL
      obtain ⟨l1, l2, l3⟩ := hL
      have L1 := Lib.hid l1
      have L2 := Lib.hid l2
      have L3 := Lib.hid l3
      have t1 : (j : Int).tmod 3 = (u : Int) := by rw [Int.tmod_eq_emod_of_nonneg b0]; omega
      have t2 : ((j : Int) + 1).tmod 3 = (v : Int) := by rw [Int.tmod_eq_emod_of_nonneg (by omega)]; omega
      clear l1 l2 l3 hu hv
      have HLL : Hid (l.length < 100000) := Lib.hid (by have := HJ.out.len; have := H60.out; have := HLT.out; omega)
      go_wp2_with fail
      refine (HE.out.lock HLL.out u v 0 x hh (10 + (j : Int)) 1).mono ?_
      rintro e w6 ⟨rfl, hp⟩
      rw [L2.out, L1.out]
      obtain ⟨S6, he6, hv6⟩ := HV.out.post hp
      have HE6 := Lib.hid he6
      have HV6 := Lib.hid hv6
      clear hp he6 hv6 hcell t1 t2
      have hne : ((j : Int) != (j : Int)) = false := by simp
      have HW : Hid (∀ k, k < j + 1 → 1 ≤ xs.getD k 0 ∧ xs.getD k 0 ≤ 1000) := Lib.hid (fun k hk => by
        by_cases e : k < j
        · exact HX.out k e
        · obtain rfl : k = j := by omega
          rw [← HXX.out]; exact HXB.out)
      have HMS : Hid (n - (j + 1) < n - j) := Lib.hid (by have := HLT.out; omega)
      clear x1 x2
      go_wp2
      go_roundw
      case rel => exact ⟨j + 1, HLT.out, by go_num, by go_num, S6, _, _, HE6.out, HV6.out, L3.out, HW.out⟩
      case measure => simpa [intOf] using HMS.out
    obtain rfl : j = n := by omega
    have HCH : Hid (shaS (secS 3) = hh) := Lib.hid HH.out.symm
    clear hlt hj
    go_wp2_with fail
    go_loopw [12] (fun i wr => ∃ k : Nat, k ≤ j ∧ i = .int .i64 k ∧ ∃ S b l want, EB S W wr 3 1 b l (fun j => tot bM j 3) B tb q ∧ WBox S W wr V want ∧ MInv xs hh j k b l want) (fun i _ => j - (intOf i).toNat)
    case atStart => exact ⟨0, by omega, rfl, S, b, l, _, HE.out, HV.out, HJ.out⟩
    case round =>
      obtain ⟨k, hk, rfl, S, b, l, want, he, hv, hmi⟩ := hrel
      rename World => wr
      have HE := Lib.hid he
      have HV := Lib.hid hv
      have HJ := Lib.hid hmi
      clear he hv hmi
      by_cases hlt : k < j
      · have b0 : (0 : Int) ≤ (k : Int) := by omega
        have b1 : (k : Int) < (j : Int) := by omega
        have HLT := Lib.hid hlt
        have b2 : (k : Int) < (m : Int) := by omega
        obtain ⟨ab, aoff, rfl, hcell⟩ : ∃ ab aoff, ao = some ⟨ab, aoff, none⟩ ∧ ∀ w', Below W.heap.size W w' → w'.cell? ⟨ab, aoff + k, none⟩ = some (.int .i64 (xs.getD k 0)) := by
          have hjx : k < xs.length := by rw [← HN.out]; exact hlt
          have hI := HI.out
          rcases hI with h | ⟨ab, aoff, h1, h2⟩
          · rw [h] at hjx; simp at hjx
          · exact ⟨ab, aoff, h1, fun w' hb => by
              have c := h2 k hjx
              rw [hb.cell (World.block_lt_of_cell? W _ c)]; exact c⟩
        have hkc : k < cs.length := by rw [HM.out]; have := H60.out; omega
        obtain ⟨cb, coff, rfl, hcc⟩ : ∃ cb coff, co = some ⟨cb, coff, none⟩ ∧ wr.cell? ⟨cb, coff + k, none⟩ = some (.bool cs[k]) := by
          rcases HC.out.below HE.out.bel with h | ⟨cb, coff, h1, h2⟩
          · rw [h] at hkc; simp at hkc
          · exact ⟨cb, coff, h1, h2 k hkc⟩
        generalize cs[k] = cl at *
        have HXB := Lib.hid (HX.out k hlt)
        obtain ⟨x, hx⟩ : ∃ x, x = xs.getD k 0 := ⟨_, rfl⟩
        rw [← hx] at hcell HXB
        have HCELL := Lib.hid hcell
        have HXX := Lib.hid hx
        have HN60 : Hid (j ≤ 60) := Lib.hid H60.out.1
        have HBI := Lib.hid HE.out.inv
        obtain ⟨u, hu⟩ : ∃ u, u = k % 3 := ⟨_, rfl⟩
        obtain ⟨v, hv⟩ : ∃ v, v = (k + 1) % 3 := ⟨_, rfl⟩
        have HUV : Hid (u = k % 3 ∧ v = (k + 1) % 3 ∧ u < 3 ∧ v < 3 ∧ u ≠ v) := Lib.hid ⟨hu, hv, by omega, by omega, by omega⟩
        have t1 : (k : Int).tmod 3 = (u : Int) := by rw [Int.tmod_eq_emod_of_nonneg b0]; omega
        have t2 : ((k : Int) + 1).tmod 3 = (v : Int) := by rw [Int.tmod_eq_emod_of_nonneg (by omega)]; omega
        have HMS : Hid (j - (k + 1) < j - k) := Lib.hid (by omega)
        have HWB : Hid (∀ p, p < 3 → 0 ≤ want p ∧ want p ≤ 4611686018427500000) := Lib.hid (fun p hp => by
          have h1 := HJ.out.want p hp
          have h2 := HJ.out.small p hp
          have h3 := HBI.out.good.cell (a := p) (j := 0) hp (by omega)
          have h4 := lockedX_nonneg (l.map swpX) (fun x hx => by
            rw [List.mem_map] at hx
            obtain ⟨y, hy, rfl⟩ := hx
            exact (HBI.out.esc y hy).2.2.2.1) (p : Int)
          have h5 : pend l (p : Int) = lockedX (l.map swpX) (p : Int) := rfl
          have h6 := HN60.out
          omega)
        have HAL : Hid (ab < W.heap.size) := Lib.hid (World.block_lt_of_cell? W _ (hcell W (Below.refl _ _)))
        clear hx hlt hcell hkc hu hv hk
        cases cl
        case true =>
          obtain ⟨want', hwant⟩ : ∃ want' : Nat → Int, want' = fun r => if r = v then want v + x else if r = u then want u - x else want r := ⟨_, rfl⟩
          have hcl := MInv.claim HBI.out HJ.out HLT.out HN60.out (secS 3) (secS_size 3) HCH.out (by rw [← HXX.out]; exact HXB.out.1) want' (fun p hp => by
            have h1 := HUV.out
            rw [hwant, ← HXX.out, ← h1.1, ← h1.2.1]
            show (if p = v then want v + x else if p = u then want u - x else want p) = _
            by_cases e1 : p = v
            · subst e1
              rw [if_pos rfl, if_neg (fun e => h1.2.2.2.2 e), if_pos rfl]; omega
            · rw [if_neg e1, if_neg (Ne.symm e1)]
              by_cases e2 : p = u
              · subst e2; rw [if_pos rfl, if_pos rfl]; omega
              · rw [if_neg e2, if_neg (Ne.symm e2)]; omega)
          rw [← HUV.out.2.1] at hcl
          have HCL := Lib.hid hcl
          have HWT := Lib.hid hwant
          clear hcl hwant
          go_wp2_with fail
          refine (secret_any 3 _).mono ?_
          rintro e w6 ⟨rfl, hb6⟩
          have HE6 := Lib.hid (HE.out.below hb6)
          have HV6 := Lib.hid (HV.out.below hb6)
          clear hb6 HE HV hcc
          go_wp2_with fail
          refine (HE6.out.claim v k (secS 3) (9 + (k : Int))).mono ?_
          rintro e w7 ⟨rfl, hp⟩
          rw [HCL.out.1]
          obtain ⟨S7, he7, hv7⟩ := HV6.out.post hp
          have HE7 := Lib.hid he7
          have HV7 := Lib.hid hv7
          have HJ7 := Lib.hid HCL.out.2
          clear hp he7 hv7 HE6 HV6 HCL
          have cw := (HV7.out.cell u HUV.out.2.2.1).1
          have fw := (HV7.out.cell u HUV.out.2.2.1).2
          have ca := HCELL.out w7 HE7.out.bel
          obtain ⟨y0, y1⟩ := HWB.out u HUV.out.2.2.1
          have x0 := HXB.out.1
          have x9 := HXB.out.2
          have hVa : V ≠ ab := by have h1 := HAL.out; have h2 := HV7.out.2.2; omega
          have u0 : (0 : Int) ≤ (u : Int) := by omega
          have u3 : (u : Int) < 3 := by have := HUV.out.2.2.1; omega
          have v0 : (0 : Int) ≤ (v : Int) := by omega
          have v3 : (v : Int) < 3 := by have := HUV.out.2.2.2.1; omega
          obtain ⟨z0, hz0⟩ : ∃ z0, z0 = want u := ⟨_, rfl⟩
          obtain ⟨z1, hz1⟩ : ∃ z1, z1 = want v := ⟨_, rfl⟩
          rw [← hz0] at cw y0 y1
          have HZ0 := Lib.hid hz0
          have HZ1 := Lib.hid hz1
          clear hz0 hz1
          go_upto_region 26 with fail
          refine wp_region_held_drew (S := fun w' => w'.cell? ⟨ab, aoff + k, none⟩ = some (.int .i64 x)) (by kernel_rfl) ?_ (fun hHeld => ?_)
          · exact ca
          refine take_at (i := 0) (d := 106) (v := ?_) rfl rfl (by kernel_rfl) (by kernel_rfl) (by kernel_rfl) (fun _ _ _ h => h) (Or.inl ⟨by rfl, by intro w' hSw; (try dsimp only at hSw); go_simp; try with_reducible rfl⟩) (by assumption) ?_
          simp only [List.setIfInBounds_toArray, List.set_cons_zero, List.set_cons_succ]
          refine take_at (i := 1) (d := 107) (v := ?_) rfl rfl (by kernel_rfl) (by kernel_rfl) (by kernel_rfl) (fun _ _ _ h => h) (Or.inl ⟨by rfl, by intro w' hSw; (try dsimp only at hSw); go_simp; try with_reducible rfl⟩) (by assumption) ?_
          simp only [List.setIfInBounds_toArray, List.set_cons_zero, List.set_cons_succ]
          refine take_at (i := 2) (d := 108) (v := ?_) rfl rfl (by kernel_rfl) (by kernel_rfl) (by kernel_rfl) (fun _ _ _ h => h) (Or.inl ⟨by rfl, by intro w' hSw; (try dsimp only at hSw); go_simp; try with_reducible rfl⟩) (by assumption) ?_
          simp only [List.setIfInBounds_toArray, List.set_cons_zero, List.set_cons_succ]
          refine take_at (i := 3) (d := 109) (v := ?_) rfl rfl (by kernel_rfl) (by kernel_rfl) (by kernel_rfl) (fun _ _ _ h => h) (Or.inl ⟨by rfl, by intro w' hSw; (try dsimp only at hSw); go_simp; try with_reducible rfl⟩) (by assumption) ?_
          simp only [List.setIfInBounds_toArray, List.set_cons_zero, List.set_cons_succ]
          refine take_at (i := 5) (d := 111) (v := ?_) rfl rfl (by kernel_rfl) (by kernel_rfl) (by kernel_rfl) (fun _ _ _ h => h) (Or.inl ⟨by rfl, by intro w' hSw; (try dsimp only at hSw); go_simp; try with_reducible rfl⟩) (by assumption) ?_
          simp only [List.setIfInBounds_toArray, List.set_cons_zero, List.set_cons_succ]
          refine take_at (i := 6) (d := 112) (v := ?_) rfl rfl (by kernel_rfl) (by kernel_rfl) (by kernel_rfl) (fun _ _ _ h => h) (Or.inl ⟨by rfl, by intro w' hSw; (try dsimp only at hSw); go_simp; try with_reducible rfl⟩) (by assumption) ?_
          simp only [List.setIfInBounds_toArray, List.set_cons_zero, List.set_cons_succ]
          refine take_at (i := 7) (d := 113) (v := ?_) rfl rfl (by kernel_rfl) (by kernel_rfl) (by kernel_rfl) (fun _ _ _ h => h) (Or.inl ⟨by rfl, by intro w' hSw; (try dsimp only at hSw); go_simp; try with_reducible rfl⟩) (by assumption) ?_
          simp only [List.setIfInBounds_toArray, List.set_cons_zero, List.set_cons_succ]
          refine take_at (i := 8) (d := 114) (v := ?_) rfl rfl (by kernel_rfl) (by kernel_rfl) (by kernel_rfl) (fun _ _ _ h => h) (Or.inl ⟨by rfl, by intro w' hSw; (try dsimp only at hSw); go_simp; try with_reducible rfl⟩) (by assumption) ?_
          simp only [List.setIfInBounds_toArray, List.set_cons_zero, List.set_cons_succ]
          have cw1 : w7.drew.cell? ⟨V, u, none⟩ = some (.int .i64 z0) := cw
          refine wpAnyH_ready (rs := [4]) (by kernel_rfl) (by simp) ?_
          refine AllReadyH.cons rfl (fun K hK => ?_) AllReadyH.nil
          go_simp
          go_wp2_with fail
          refine hK.out _ _ ?_ (fun hHeld => ?_)
          · exact ca
          clear hK K
          try simp only [Act.put, List.getElem_toArray, List.getElem_cons_succ, List.getElem_cons_zero]
          try simp only [List.setIfInBounds_toArray, List.set_cons_zero, List.set_cons_succ]
          refine take_at (i := 9) (d := 115) (v := ?_) rfl rfl (by kernel_rfl) (by kernel_rfl) (by kernel_rfl) (fun _ _ _ h => h) (Or.inl ⟨by rfl, by intro w' hSw; (try dsimp only at hSw); go_simp; try with_reducible rfl⟩) (by assumption) ?_
          simp only [List.setIfInBounds_toArray, List.set_cons_zero, List.set_cons_succ]
          refine take_at (i := 10) (d := 116) (v := ?_) rfl rfl (by kernel_rfl) (by kernel_rfl) (by kernel_rfl) (fun _ _ _ h => h) (Or.inl ⟨by rfl, by intro w' hSw; (try dsimp only at hSw); go_simp; try with_reducible rfl⟩) (by assumption) ?_
          simp only [List.setIfInBounds_toArray, List.set_cons_zero, List.set_cons_succ]
          have fw1 : w7.drew.frozen? ⟨V, u, none⟩ = false := fw
          refine wpAnyH_ready (rs := [11]) (by kernel_rfl) (by simp) ?_
          refine AllReadyH.cons rfl (fun K hK => ?_) AllReadyH.nil
          go_simp
          go_wp2_with fail
          refine hK.out _ _ ?_ (fun hHeld => ?_)
          · exact (World.cell?_setCell_other _ ⟨V, u, none⟩ ⟨ab, aoff + k, none⟩ _ (by simp <;> omega)).trans ca
          clear hK K
          try simp only [Act.put, List.getElem_toArray, List.getElem_cons_succ, List.getElem_cons_zero]
          try simp only [List.setIfInBounds_toArray, List.set_cons_zero, List.set_cons_succ]
          refine wpAnyH_done (by kernel_rfl) ?_ _
          clear hHeld
          have hwr : IntKind.i64.wrap (z0 - x) = z0 - x := by
            rw [IntKind.wrap_i64]; omega
          rw [hwr]
          obtain ⟨w8, hw8⟩ : ∃ w8, w8 = (w7.setCell ⟨V, u, none⟩ (.int .i64 (z0 - x))).drew := ⟨_, rfl⟩
          rw [← hw8]
          have HE8 : Hid (EB S7 W w8 3 1 _ _ (fun j => tot bM j 3) B tb q) := Lib.hid (by rw [hw8]; exact (HE7.out.apart HV7.out u _).below (below_drew _))
          have HV8 : Hid (WBox S7 W w8 V (fun r => if r = u then z0 - x else want r)) := Lib.hid (by rw [hw8]; exact (HV7.out.set u HUV.out.2.2.1 _).below (below_drew _))
          clear hw8 cw fw ca cw1 fw1 y0 y1 HE7 HV7 hwr
          have cw : w8.cell? ⟨V, v, none⟩ = some (.int .i64 z1) := by
            have h1 := (HV8.out.cell v HUV.out.2.2.2.1).1
            rw [h1, HZ1.out]
            have h2 := HUV.out.2.2.2.2
            simp [Ne.symm h2]
          have fw := (HV8.out.cell v HUV.out.2.2.2.1).2
          have ca := HCELL.out w8 HE8.out.bel
          obtain ⟨y0, y1⟩ := HWB.out v HUV.out.2.2.2.1
          rw [← HZ1.out] at y0 y1
          have hk1 : IntKind.i64.wrap ((k : Int) + 1) = (k : Int) + 1 := by rw [IntKind.wrap_i64]; omega
          go_upto_region 27 with fail
          refine wp_region_held_drew (S := fun w' => w'.cell? ⟨ab, aoff + k, none⟩ = some (.int .i64 x)) (by kernel_rfl) ?_ (fun hHeld => ?_)
          · exact ca
          refine take_at (i := 0) (d := 117) (v := ?_) rfl rfl (by kernel_rfl) (by kernel_rfl) (by kernel_rfl) (fun _ _ _ h => h) (Or.inl ⟨by rfl, by intro w' hSw; (try dsimp only at hSw); go_simp; try with_reducible rfl⟩) (by assumption) ?_
          simp only [List.setIfInBounds_toArray, List.set_cons_zero, List.set_cons_succ]
          refine take_at (i := 1) (d := 118) (v := ?_) rfl rfl (by kernel_rfl) (by kernel_rfl) (by kernel_rfl) (fun _ _ _ h => h) (Or.inl ⟨by rfl, by intro w' hSw; (try dsimp only at hSw); go_simp; try with_reducible rfl⟩) (by assumption) ?_
          simp only [List.setIfInBounds_toArray, List.set_cons_zero, List.set_cons_succ]
          refine take_at (i := 2) (d := 119) (v := ?_) rfl rfl (by kernel_rfl) (by kernel_rfl) (by kernel_rfl) (fun _ _ _ h => h) (Or.inl ⟨by rfl, by intro w' hSw; (try dsimp only at hSw); go_simp; try with_reducible rfl⟩) (by assumption) ?_
          simp only [List.setIfInBounds_toArray, List.set_cons_zero, List.set_cons_succ]
          refine take_at (i := 3) (d := 120) (v := ?_) rfl rfl (by kernel_rfl) (by kernel_rfl) (by kernel_rfl) (fun _ _ _ h => h) (Or.inl ⟨by rfl, by intro w' hSw; (try dsimp only at hSw); go_simp; try with_reducible rfl⟩) (by assumption) ?_
          simp only [List.setIfInBounds_toArray, List.set_cons_zero, List.set_cons_succ]
          refine take_at (i := 4) (d := 121) (v := ?_) rfl rfl (by kernel_rfl) (by kernel_rfl) (by kernel_rfl) (fun _ _ _ h => h) (Or.inl ⟨by rfl, by intro w' hSw; (try dsimp only at hSw); go_simp; try with_reducible rfl⟩) (by assumption) ?_
          simp only [List.setIfInBounds_toArray, List.set_cons_zero, List.set_cons_succ]
          refine take_at (i := 6) (d := 123) (v := ?_) rfl rfl (by kernel_rfl) (by kernel_rfl) (by kernel_rfl) (fun _ _ _ h => h) (Or.inl ⟨by rfl, by intro w' hSw; (try dsimp only at hSw); go_simp; try with_reducible rfl⟩) (by assumption) ?_
          simp only [List.setIfInBounds_toArray, List.set_cons_zero, List.set_cons_succ]
          refine take_at (i := 7) (d := 124) (v := ?_) rfl rfl (by kernel_rfl) (by kernel_rfl) (by kernel_rfl) (fun _ _ _ h => h) (Or.inl ⟨by rfl, by intro w' hSw; (try dsimp only at hSw); go_simp; try with_reducible rfl⟩) (by assumption) ?_
          simp only [List.setIfInBounds_toArray, List.set_cons_zero, List.set_cons_succ]
          refine take_at (i := 8) (d := 125) (v := ?_) rfl rfl (by kernel_rfl) (by kernel_rfl) (by kernel_rfl) (fun _ _ _ h => h) (Or.inl ⟨by rfl, by intro w' hSw; (try dsimp only at hSw); go_simp; try with_reducible rfl⟩) (by assumption) ?_
          simp only [List.setIfInBounds_toArray, List.set_cons_zero, List.set_cons_succ]
          refine take_at (i := 9) (d := 126) (v := ?_) rfl rfl (by kernel_rfl) (by kernel_rfl) (by kernel_rfl) (fun _ _ _ h => h) (Or.inl ⟨by rfl, by intro w' hSw; (try dsimp only at hSw); go_simp; try with_reducible rfl⟩) (by assumption) ?_
          simp only [List.setIfInBounds_toArray, List.set_cons_zero, List.set_cons_succ]
          have cw1 : w8.drew.cell? ⟨V, v, none⟩ = some (.int .i64 z1) := cw
          refine wpAnyH_ready (rs := [5]) (by kernel_rfl) (by simp) ?_
          refine AllReadyH.cons rfl (fun K hK => ?_) AllReadyH.nil
          go_simp
          go_wp2_with fail
          refine hK.out _ _ ?_ (fun hHeld => ?_)
          · exact ca
          clear hK K
          try simp only [Act.put, List.getElem_toArray, List.getElem_cons_succ, List.getElem_cons_zero]
          try simp only [List.setIfInBounds_toArray, List.set_cons_zero, List.set_cons_succ]
          refine take_at (i := 10) (d := 127) (v := ?_) rfl rfl (by kernel_rfl) (by kernel_rfl) (by kernel_rfl) (fun _ _ _ h => h) (Or.inl ⟨by rfl, by intro w' hSw; (try dsimp only at hSw); go_simp; try with_reducible rfl⟩) (by assumption) ?_
          simp only [List.setIfInBounds_toArray, List.set_cons_zero, List.set_cons_succ]
          refine take_at (i := 11) (d := 128) (v := ?_) rfl rfl (by kernel_rfl) (by kernel_rfl) (by kernel_rfl) (fun _ _ _ h => h) (Or.inl ⟨by rfl, by intro w' hSw; (try dsimp only at hSw); go_simp; try with_reducible rfl⟩) (by assumption) ?_
          simp only [List.setIfInBounds_toArray, List.set_cons_zero, List.set_cons_succ]
          have fw1 : w8.drew.frozen? ⟨V, v, none⟩ = false := fw
          refine wpAnyH_ready (rs := [12]) (by kernel_rfl) (by simp) ?_
          refine AllReadyH.cons rfl (fun K hK => ?_) AllReadyH.nil
          go_simp
          go_wp2_with fail
          refine hK.out _ _ ?_ (fun hHeld => ?_)
          · exact (World.cell?_setCell_other _ ⟨V, v, none⟩ ⟨ab, aoff + k, none⟩ _ (by simp <;> omega)).trans ca
          clear hK K
          try simp only [Act.put, List.getElem_toArray, List.getElem_cons_succ, List.getElem_cons_zero]
          try simp only [List.setIfInBounds_toArray, List.set_cons_zero, List.set_cons_succ]
          refine wpAnyH_done (by kernel_rfl) ?_ _
          clear hHeld
          have hwr : IntKind.i64.wrap (z1 + x) = z1 + x := by
            rw [IntKind.wrap_i64]; omega
          rw [hwr]
          obtain ⟨w9, hw9⟩ : ∃ w9, w9 = (w8.setCell ⟨V, v, none⟩ (.int .i64 (z1 + x))).drew := ⟨_, rfl⟩
          rw [← hw9]
          have HE9 : Hid (EB S7 W w9 3 1 _ _ (fun j => tot bM j 3) B tb q) := Lib.hid (by rw [hw9]; exact (HE8.out.apart HV8.out v _).below (below_drew _))
          have HV9 : Hid (WBox S7 W w9 V want') := Lib.hid (by
            rw [hw9, HWT.out]
            have h1 := (HV8.out.set v HUV.out.2.2.2.1 (z1 + x)).below (below_drew _)
            rw [HZ0.out, HZ1.out] at h1
            rw [HZ1.out]
            exact h1)
          clear hk1 hw9 cw fw ca cw1 fw1 y0 y1 HE8 HV8 hwr u0 u3 v0 v3 hVa x0 x9
          have HCD := Lib.hid (HJ7.out.closed HLT.out (secS 3) 1).1
          have HRD := Lib.hid (HJ7.out.closed HLT.out (secS 3) 500).2
          have HON := Lib.hid HJ7.out.opens
          rw [← HUV.out.1] at HRD
          rw [← HUV.out.2.1] at HCD
          generalize claimB 3 1 b l (v : Int) (k : Int) (secS 3) (9 + (k : Int)) = bN at *
          generalize claimL 3 1 b l (v : Int) (k : Int) (secS 3) (9 + (k : Int)) = lN at *
          go_wp2_with fail
          refine (secret_any 3 _).mono ?_
          rintro e w10 ⟨rfl, hb10⟩
          have HE10 := Lib.hid (HE9.out.below hb10)
          have HV10 := Lib.hid (HV9.out.below hb10)
          clear hb10 HE9 HV9
          go_wp2_with fail
          refine (HE10.out.claim v k (secS 3) 1).mono ?_
          rintro e w11 ⟨rfl, hp⟩
          rw [HCD.out.1]
          rw [HCD.out.2.1, HCD.out.2.2] at hp
          obtain ⟨S11, he11, hv11⟩ := HV10.out.post hp
          have HE11 := Lib.hid he11
          have HV11 := Lib.hid hv11
          clear hp he11 hv11 HE10 HV10
          go_wp2_with fail
          refine (HE11.out.refund u k 500).mono ?_
          rintro e w12 ⟨rfl, hp⟩
          rw [HRD.out.1]
          rw [HRD.out.2.1, HRD.out.2.2] at hp
          obtain ⟨S12, he12, hv12⟩ := HV11.out.post hp
          have HE12 := Lib.hid he12
          have HV12 := Lib.hid hv12
          clear hp he12 hv12 HE11 HV11
          go_wp2_with fail
          refine (HE12.out.opens).mono ?_
          rintro e w13 ⟨rfl, hb13⟩
          have HOP : Hid ((openX lN : Int) = (j : Int) - 1 - (k : Int)) := Lib.hid (by have := HON.out; omega)
          rw [HOP.out]
          have HE13 := Lib.hid (HE12.out.below hb13)
          have HV13 := Lib.hid (HV12.out.below hb13)
          have hne : (((j : Int) - 1 - (k : Int)) != (j : Int) - 1 - (k : Int)) = false := by simp
          clear hb13 HE12 HV12 t1 t2
          go_wp2
          go_roundw
          case rel => exact ⟨k + 1, HLT.out, by go_num, S12, bN, lN, want', HE13.out, HV13.out, HJ7.out⟩
          case measure => simpa [intOf] using HMS.out
        case false =>
          have hcl := MInv.refund HBI.out HJ.out HLT.out HN60.out (by rw [← HXX.out]; exact HXB.out.1)
          rw [← HUV.out.1] at hcl
          have HCL := Lib.hid hcl
          clear hcl
          go_wp2_with fail
          refine (HE.out.refund u k (10 + (k : Int))).mono ?_
          rintro e w9 ⟨rfl, hp⟩
          rw [HCL.out.1]
          obtain ⟨S7, he7, hv7⟩ := HV.out.post hp
          have HE9 := Lib.hid he7
          have HV9 := Lib.hid hv7
          have HJ7 := Lib.hid HCL.out.2
          clear hp he7 hv7 HE HV HCL hcc
          have HCD := Lib.hid (HJ7.out.closed HLT.out (secS 3) 1).1
          have HRD := Lib.hid (HJ7.out.closed HLT.out (secS 3) 500).2
          have HON := Lib.hid HJ7.out.opens
          rw [← HUV.out.1] at HRD
          rw [← HUV.out.2.1] at HCD
          generalize refundB 3 1 b l (u : Int) (k : Int) (10 + (k : Int)) = bN at *
          generalize refundL 3 1 b l (u : Int) (k : Int) (10 + (k : Int)) = lN at *
          go_wp2_with fail
          refine (secret_any 3 _).mono ?_
          rintro e w10 ⟨rfl, hb10⟩
          have HE10 := Lib.hid (HE9.out.below hb10)
          have HV10 := Lib.hid (HV9.out.below hb10)
          clear hb10 HE9 HV9
          go_wp2_with fail
          refine (HE10.out.claim v k (secS 3) 1).mono ?_
          rintro e w11 ⟨rfl, hp⟩
          rw [HCD.out.1]
          rw [HCD.out.2.1, HCD.out.2.2] at hp
          obtain ⟨S11, he11, hv11⟩ := HV10.out.post hp
          have HE11 := Lib.hid he11
          have HV11 := Lib.hid hv11
          clear hp he11 hv11 HE10 HV10
          go_wp2_with fail
          refine (HE11.out.refund u k 500).mono ?_
          rintro e w12 ⟨rfl, hp⟩
          rw [HRD.out.1]
          rw [HRD.out.2.1, HRD.out.2.2] at hp
          obtain ⟨S12, he12, hv12⟩ := HV11.out.post hp
          have HE12 := Lib.hid he12
          have HV12 := Lib.hid hv12
          clear hp he12 hv12 HE11 HV11
          go_wp2_with fail
          refine (HE12.out.opens).mono ?_
          rintro e w13 ⟨rfl, hb13⟩
          have HOP : Hid ((openX lN : Int) = (j : Int) - 1 - (k : Int)) := Lib.hid (by have := HON.out; omega)
          rw [HOP.out]
          have HE13 := Lib.hid (HE12.out.below hb13)
          have HV13 := Lib.hid (HV12.out.below hb13)
          have hne : (((j : Int) - 1 - (k : Int)) != (j : Int) - 1 - (k : Int)) = false := by simp
          clear hb13 HE12 HV12 t1 t2
          go_wp2
          go_roundw
          case rel => exact ⟨k + 1, HLT.out, by go_num, S12, bN, lN, want, HE13.out, HV13.out, HJ7.out⟩
          case measure => simpa [intOf] using HMS.out
      obtain rfl : k = j := by omega
      clear hlt hk
      go_wp2_with fail
      go_loopw [13] (fun i wz => ∃ p : Nat, p ≤ 3 ∧ i = .int .i64 p ∧ EB S W wz 3 1 b l (fun j => tot bM j 3) B tb q ∧ WBox S W wz V want) (fun i _ => 3 - (intOf i).toNat)
      case atStart => exact ⟨0, by omega, rfl, HE.out, HV.out⟩
      case round =>
        obtain ⟨p, hp, rfl, he, hv⟩ := hrel
        rename World => wz
        have HE' := Lib.hid he
        have HV' := Lib.hid hv
        clear he hv
        by_cases hlt : p < 3
        · have p0 : (0 : Int) ≤ (p : Int) := by omega
          have p1 : (p : Int) < 3 := by omega
          have HG := Lib.hid (HJ.out.done p hlt)
          have cv := (HV'.out.cell p hlt).1
          have HPL := Lib.hid hlt
          have HMS : Hid (3 - (p + 1) < 3 - p) := Lib.hid (by omega)
          have HED := Lib.hid (HE'.out.below (below_drew _))
          have HVD := Lib.hid (HV'.out.below (below_drew _))
          generalize want p = z at *
          clear hlt hp
          go_upto_region 35 with fail
          refine wp_region_held_drew (S := fun w' => w'.cell? ⟨V, p, none⟩ = some (.int .i64 z)) (by kernel_rfl) ?_ (fun hHeld => ?_)
          · exact cv
          refine take_at (i := 0) (d := 166) (v := ?_) rfl rfl (by kernel_rfl) (by kernel_rfl) (by kernel_rfl) (fun _ _ _ h => h) (Or.inl ⟨by rfl, by intro w' hSw; (try dsimp only at hSw); go_simp; try with_reducible rfl⟩) (by assumption) ?_
          simp only [List.setIfInBounds_toArray, List.set_cons_zero, List.set_cons_succ]
          refine take_at (i := 2) (d := 168) (v := ?_) rfl rfl (by kernel_rfl) (by kernel_rfl) (by kernel_rfl) (fun _ _ _ h => h) (Or.inl ⟨by rfl, by intro w' hSw; (try dsimp only at hSw); go_simp; try with_reducible rfl⟩) (by assumption) ?_
          simp only [List.setIfInBounds_toArray, List.set_cons_zero, List.set_cons_succ]
          refine take_at (i := 4) (d := 170) (v := ?_) rfl rfl (by kernel_rfl) (by kernel_rfl) (by kernel_rfl) (fun _ _ _ h => h) (Or.inl ⟨by rfl, by intro w' hSw; (try dsimp only at hSw); go_simp; try with_reducible rfl⟩) (by assumption) ?_
          simp only [List.setIfInBounds_toArray, List.set_cons_zero, List.set_cons_succ]
          refine take_at (i := 5) (d := 171) (v := ?_) rfl rfl (by kernel_rfl) (by kernel_rfl) (by kernel_rfl) (fun _ _ _ h => h) (Or.inl ⟨by rfl, by intro w' hSw; (try dsimp only at hSw); go_simp; try with_reducible rfl⟩) (by assumption) ?_
          simp only [List.setIfInBounds_toArray, List.set_cons_zero, List.set_cons_succ]
          refine take_at (i := 6) (d := 172) (v := ?_) rfl rfl (by kernel_rfl) (by kernel_rfl) (by kernel_rfl) (fun _ _ _ h => h) (Or.inl ⟨by rfl, by intro w' hSw; (try dsimp only at hSw); go_simp; try with_reducible rfl⟩) (by assumption) ?_
          simp only [List.setIfInBounds_toArray, List.set_cons_zero, List.set_cons_succ]
          refine take_at (i := 7) (d := 173) (v := ?_) rfl rfl (by kernel_rfl) (by kernel_rfl) (by kernel_rfl) (fun _ _ _ h => h) (Or.inl ⟨by rfl, by intro w' hSw; (try dsimp only at hSw); go_simp; try with_reducible rfl⟩) (by assumption) ?_
          simp only [List.setIfInBounds_toArray, List.set_cons_zero, List.set_cons_succ]
          refine wpAnyH_ready (rs := [1]) (by kernel_rfl) (by simp) ?_
          refine AllReadyH.cons rfl (fun K hK => ?_) AllReadyH.nil
          go_simp
          refine (HED.out.purse).mono ?_
          rintro e w6 ⟨rfl, rfl⟩
          dsimp only
          go_wp2_with fail
          refine hK.out _ _ ?_ (fun hHeld => ?_)
          · exact cv
          clear hK K
          try simp only [Act.put, List.getElem_toArray, List.getElem_cons_succ, List.getElem_cons_zero]
          try simp only [List.setIfInBounds_toArray, List.set_cons_zero, List.set_cons_succ]
          refine wpAnyH_ready (rs := [3]) (by kernel_rfl) (by simp) ?_
          refine AllReadyH.cons rfl (fun K hK => ?_) AllReadyH.nil
          go_simp
          refine (HED.out.has p 0).mono ?_
          rintro e w6 ⟨rfl, rfl⟩
          rw [HG.out]
          dsimp only
          go_wp2_with fail
          refine hK.out _ _ ?_ (fun hHeld => ?_)
          · exact cv
          clear hK K
          try simp only [Act.put, List.getElem_toArray, List.getElem_cons_succ, List.getElem_cons_zero]
          try simp only [List.setIfInBounds_toArray, List.set_cons_zero, List.set_cons_succ]
          refine take_at (i := 8) (d := 174) (v := ?_) rfl rfl (by kernel_rfl) (by kernel_rfl) (by kernel_rfl) (fun _ _ _ h => h) (Or.inl ⟨by rfl, by intro w' hSw; (try dsimp only at hSw); go_simp; try with_reducible rfl⟩) (by assumption) ?_
          simp only [List.setIfInBounds_toArray, List.set_cons_zero, List.set_cons_succ]
          refine wpAnyH_done (by kernel_rfl) ?_ _
          clear hHeld
          have hne : (z != z) = false := by simp
          go_wp2
          go_roundw
          case rel => exact ⟨p + 1, HPL.out, by go_num, HED.out, HVD.out⟩
          case measure => simpa [intOf] using HMS.out
        obtain rfl : p = 3 := by omega
        clear hlt hp
        have HTT : Hid (allX 3 1 b l 0 = 300000) := Lib.hid (((HE'.out.inv.bound 0).2.2 0 rfl (by omega)).trans bM_tot)
        have HLN : Hid ((l.length : Int) = (k : Int)) := Lib.hid (by rw [HJ.out.len])
        go_wp2_with fail
        refine (first10_any wz).mono ?_
        rintro e w6 ⟨rfl, hb6⟩
        have HE6 := Lib.hid (HE'.out.below hb6)
        clear hb6
        go_wp2_with fail
        refine (HE6.out.total 0).mono ?_
        rintro e w7 ⟨rfl, hb7⟩
        rw [HTT.out]
        have HE7 := Lib.hid (HE6.out.below hb7)
        clear hb7
        go_wp2_with fail
        refine (HE7.out.len).mono ?_
        rintro e w8 ⟨rfl, rfl⟩
        rw [HLN.out]
        have hkk : ((k : Int) == (k : Int)) = true := by simp
        go_wp2
        go_ret
        exact ⟨rfl, HE7.out.bel⟩

end Go.Proofs.Ytbhoakohpfdeoaa
