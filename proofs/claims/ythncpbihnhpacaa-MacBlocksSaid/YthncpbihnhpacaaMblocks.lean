/- MacBlocks is true for every input; no condition: the walk. -/
import Derived.Test.YthncpbihnhpacaaMac4
namespace Go.Proofs.Ythncpbihnhpacaa
open Go.RowKit
set_option linter.unusedVariables false
set_option linter.unusedSimpArgs false

/-- A row of n that is laid over, up to k. -/
def ovL (n k : Nat) (f h : Nat → Int) : List Int := (List.range n).map (fun j => if j < k then f j else h j)
theorem ovL_len (n k : Nat) (f h : Nat → Int) : (ovL n k f h).length = n := by simp [ovL]
theorem ovL_all (n : Nat) (f h : Nat → Int) : ovL n n f h = (List.range n).map f := by
  unfold ovL
  refine List.map_congr_left (fun j hj => ?_)
  rw [if_pos (List.mem_range.1 hj)]
theorem ovL_zero (n : Nat) (f h : Nat → Int) : ovL n 0 f h = (List.range n).map h := by
  unfold ovL
  refine List.map_congr_left (fun j hj => ?_)
  rw [if_neg (by omega)]
theorem ovL_step (n k : Nat) (f h : Nat → Int) (hk : k < n) : (ovL n k f h).set k (f k) = ovL n (k + 1) f h := by
  refine List.ext_getElem (by simp [ovL]) (fun j h1 h2 => ?_)
  rw [List.getElem_set]
  simp only [ovL, List.getElem_map, List.getElem_range]
  by_cases e : k = j
  · subst e; simp
  · rw [if_neg e]
    by_cases e2 : j < k
    · rw [if_pos e2, if_pos (by omega)]
    · rw [if_neg e2, if_neg (by omega)]
def upL (n : Nat) : List Int := (List.range n).map (fun j : Nat => (j : Int))
theorem upL_len (n : Nat) : (upL n).length = n := by simp [upL]
theorem upL_inB (n : Nat) (h : n ≤ 150) : InB (upL n) := fun z hz => by
  unfold upL at hz
  obtain ⟨j, hj, rfl⟩ := List.mem_map.1 hz
  have := List.mem_range.1 hj
  omega

theorem zeros_range (n : Nat) (f : Nat → Int) (h : ∀ j, f j = 0) : List.replicate n 0 = (List.range n).map f := by
  refine List.ext_getElem (by simp) (fun j h1 h2 => ?_)
  simp [h]
theorem ovL_at (n k : Nat) (f h : Nat → Int) (hk : k < n) : (ovL n k f h).getD k 0 = h k := by
  simp [ovL, List.getD, hk]
theorem two_made (w : World) (k n : Nat) : RowL (((w.alloc (.cells (madeCells #[.int .u8 0] k) 5)).alloc (.cells (madeCells #[.int .u8 0] n) 5)).drew) w.heap.size (List.replicate k 0) ∧ RowL (((w.alloc (.cells (madeCells #[.int .u8 0] k) 5)).alloc (.cells (madeCells #[.int .u8 0] n) 5)).drew) (w.heap.size + 1) (List.replicate n 0) ∧ Below w.heap.size w (((w.alloc (.cells (madeCells #[.int .u8 0] k) 5)).alloc (.cells (madeCells #[.int .u8 0] n) 5)).drew) := by
  have h1 := RowL.made w k
  have h2 := RowL.made (w.alloc (.cells (madeCells #[.int .u8 0] k) 5)) n
  have e : (w.alloc (.cells (madeCells #[.int .u8 0] k) 5)).heap.size = w.heap.size + 1 := by simp
  rw [e] at h2
  have hb : Below (w.heap.size + 1) (w.alloc (.cells (madeCells #[.int .u8 0] k) 5)) ((w.alloc (.cells (madeCells #[.int .u8 0] k) 5)).alloc (.cells (madeCells #[.int .u8 0] n) 5)) := (Below.refl _ _).alloc (by rw [e]; exact Nat.le_refl _) _
  refine ⟨h1.same (hb.block _ (by omega)), h2, ?_⟩
  exact ((((Keeps.refl (fun _ => False) w).alloc _).alloc _).drew).below (Nat.le_refl _) (fun _ h => h.elim)

set_option maxRecDepth 100000 in
set_option maxHeartbeats 4000000 in
theorem mblocks_core (W : World) (K N : Int) :
    Calls Try.prog 11 #[.int .i64 K, .int .i64 N] W fun e w' => e = .returned (.bool true) ∧ Below W.heap.size W w' := by
  go_enter Try.func11, Try.ntmps11
  go_wp2_with fail
  refine (first3_any W).mono ?_
  rintro e w1 ⟨rfl, hb1⟩
  have HB1 := Lib.hid hb1
  clear hb1
  go_wp2_with fail
  refine (newTable_any w1).mono ?_
  rintro e w2 ⟨rfl, ht2, hb2⟩
  have HT2 := Lib.hid ht2
  have HB2 : Hid (Below W.heap.size W w2) := Lib.hid (below_step HB1.out hb2)
  have HLT := Lib.hid HB1.out.size
  generalize w1.heap.size = tb at *
  clear hb2 ht2 HB1
  by_cases hq0 : K < 0
  · go_wp2_with fail
    refine (first3_any w2).mono ?_
    rintro e w3 ⟨rfl, hb3⟩
    have HB3 : Hid (Below W.heap.size W w3) := Lib.hid (below_step HB2.out hb3)
    clear hb3
    go_wp2
    go_ret
    exact ⟨rfl, HB3.out⟩
  by_cases hq1 : (150 : Int) < K
  · go_wp2_with fail
    refine (first3_any w2).mono ?_
    rintro e w3 ⟨rfl, hb3⟩
    have HB3 : Hid (Below W.heap.size W w3) := Lib.hid (below_step HB2.out hb3)
    clear hb3
    go_wp2
    go_ret
    exact ⟨rfl, HB3.out⟩
  by_cases hq2 : N < 0
  · go_wp2_with fail
    refine (first3_any w2).mono ?_
    rintro e w3 ⟨rfl, hb3⟩
    have HB3 : Hid (Below W.heap.size W w3) := Lib.hid (below_step HB2.out hb3)
    clear hb3
    go_wp2
    go_ret
    exact ⟨rfl, HB3.out⟩
  by_cases hq3 : (150 : Int) < N
  · go_wp2_with fail
    refine (first3_any w2).mono ?_
    rintro e w3 ⟨rfl, hb3⟩
    have HB3 : Hid (Below W.heap.size W w3) := Lib.hid (below_step HB2.out hb3)
    clear hb3
    go_wp2
    go_ret
    exact ⟨rfl, HB3.out⟩
  obtain ⟨k, rfl⟩ := Int.eq_ofNat_of_zero_le (Int.not_lt.1 hq0)
  obtain ⟨n, rfl⟩ := Int.eq_ofNat_of_zero_le (Int.not_lt.1 hq2)
  go_upto_region 6 with fail
  have HK := Lib.hid hq1
  have HN := Lib.hid hq3
  clear hq0 hq1 hq2 hq3
  have hmk := fun w => run_make_row' (P := Try.prog) 22 5 (.int .u8 0) 1 Try.underlying22 Try_infoU8 rfl .i64 .i64 k (by have := HK.out; omega) (by have := HK.out; omega) w
  have hmn := fun w => run_make_row' (P := Try.prog) 22 5 (.int .u8 0) 1 Try.underlying22 Try_infoU8 rfl .i64 .i64 n (by have := HN.out; omega) (by have := HN.out; omega) w
  go_cut [6, 7] (fun s t wx => ∃ gk gb, s = .slice (some ⟨gk, 0, none⟩) k k ∧ t = .slice (some ⟨gb, 0, none⟩) n n ∧ gk ≠ gb ∧ RowL wx gk (List.replicate k 0) ∧ RowL wx gb (List.replicate n 0) ∧ Below w2.heap.size w2 wx ∧ w2.heap.size ≤ gk ∧ w2.heap.size ≤ gb)
  case first =>
    go_region
    all_goals (go_wp2_with fail)
    all_goals go_meet
    all_goals first
      | exact ⟨_, _, rfl, rfl, by omega, (two_made w2 k n).1, (two_made w2 k n).2.1, (two_made w2 k n).2.2, by omega, by omega⟩
      | exact ⟨_, _, rfl, rfl, by omega, (two_made w2 n k).2.1, (two_made w2 n k).1, (two_made w2 n k).2.2, by omega, by omega⟩
  case rest =>
    obtain ⟨gk, gb, rfl, rfl, hne, hrk, hrb, hbl, hgk, hgb⟩ := hcut
    rename World => w3
    have HRB3 := Lib.hid hrb
    have HRK3 := Lib.hid hrk
    have HT3 := Lib.hid (HT2.out.below hbl)
    have HB3 : Hid (Below W.heap.size W w3) := Lib.hid (below_step HB2.out hbl)
    have HG : Hid (gk ≠ gb ∧ w2.heap.size ≤ gk ∧ w2.heap.size ≤ gb ∧ tb < w2.heap.size ∧ W.heap.size ≤ w2.heap.size) := Lib.hid ⟨hne, hgk, hgb, HT2.out.lt, HB2.out.size⟩
    clear hne hrk hrb hbl hgk hgb HT2 HB2 hmk hmn
    go_wp2_with fail
    go_loopw [8] (fun i wr => ∃ j : Nat, j ≤ k ∧ i = .int .i64 j ∧ RowL wr gk (ovL k j (fun j => (j : Int)) (fun _ => 0)) ∧ Keeps (fun i => i = gk) w3 wr) (fun i _ => k - (intOf i).toNat)
    case atStart => exact ⟨0, Nat.zero_le _, rfl, by rw [ovL_zero, ← zeros_range k _ (fun _ => rfl)]; exact HRK3.out, Keeps.refl _ _⟩
    case round =>
      obtain ⟨j, hj, rfl, hr, hkp⟩ := hrel
      have HR := Lib.hid hr
      have HKP := Lib.hid hkp
      clear hr hkp
      by_cases hlt : j < k
      · obtain ⟨cc, cf⟩ := HR.out.cell j (by rw [ovL_len]; exact hlt)
        have HS := Lib.hid (HR.out.set j (j : Int))
        rw [ovL_step k j (fun j => (j : Int)) (fun _ => 0) hlt] at HS
        generalize (ovL k j (fun j => (j : Int)) (fun _ => 0)).getD j 0 = z at *
        have HK2 : Hid (Keeps (fun i => i = gk) w3 (wr.setCell ⟨gk, j, none⟩ (.int .u8 j))) := Lib.hid (HKP.out.setCell (p := ⟨gk, j, none⟩) (Or.inl rfl) _)
        have b0 : (0 : Int) ≤ (j : Int) := by omega
        have b1 : (j : Int) < (k : Int) := by omega
        have b2 : (j : Int) % 256 = (j : Int) := by have := HK.out; omega
        have hke : ((j + 1 : Nat) : Int) = (j : Int) + 1 := by omega
        have hkw : wrap64 ((j : Int) + 1) = (j : Int) + 1 := by have := HK.out; unfold wrap64; omega
        go_wp2_with fail
        refine ⟨⟨j + 1, by omega, by first | rw [hkw, hke] | rw [hke], HS.out, HK2.out⟩, ?_⟩
        try rw [hkw]
        simp only [intOf]
        omega
      · obtain rfl : j = k := by omega
        rw [ovL_all] at HR
        have HRK : Hid (RowL wr gk (upL j)) := HR
        have HRB : Hid (RowL wr gb (List.replicate n 0)) := Lib.hid (HRB3.out.same (HKP.out.block gb HRB3.out.lt (by have := HG.out; omega)))
        have HTW := Lib.hid (tab_keep HT3.out HKP.out (by have := HG.out; omega))
        have HBW : Hid (Below W.heap.size W wr) := Lib.hid (below_fp HB3.out HKP.out (by have := HG.out; intro i hi; omega))
        have HUB := Lib.hid (upL_inB j (by have := HK.out; omega))
        clear HR HKP HT3 HB3 HRB3 HRK3
        rename World => wA
        have HGL : Hid (gk < wA.heap.size ∧ gb < wA.heap.size) := Lib.hid ⟨HRK.out.lt, HRB.out.lt⟩
        have HNW := Lib.hid (macNew_any tb (some ⟨gk, 0, none⟩) (upL j) j j wA HTW.out (upL_len j) HRK.out.ints HUB.out (Or.inr (fun a ha => by cases ha; have := HG.out; dsimp only; omega)) (by have := HK.out; omega))
        go_wp2_with fail
        refine HNW.out.mono ?_
        rintro e w5 ⟨q, p, g, v, rfl, hm5, hk5⟩
        have HM5 := Lib.hid hm5
        have HRK5 := Lib.hid (HRK.out.same (hk5.block gk HGL.out.1 (by have := HG.out; omega)))
        have HRB5 := Lib.hid (HRB.out.same (hk5.block gb HGL.out.2 (by have := HG.out; omega)))
        have HB5 : Hid (Below W.heap.size W w5) := Lib.hid (below_keeps HBW.out hk5 HLT.out)
        clear hm5 hk5 HNW HRK HRB HTW HBW
        go_wp2_with fail
        go_loopw [10] (fun i wr => ∃ i' : Nat, i' ≤ j ∧ i = .int .i64 i' ∧ RowL wr gk (ovL j i' (fun _ => 255) (fun j => (j : Int))) ∧ Keeps (fun i => i = gk) w5 wr) (fun i _ => j - (intOf i).toNat)
        case atStart => exact ⟨0, Nat.zero_le _, rfl, by rw [ovL_zero]; exact HRK5.out, Keeps.refl _ _⟩
        case round =>
          obtain ⟨i', hj', rfl, hr, hkp⟩ := hrel
          have HR := Lib.hid hr
          have HKP := Lib.hid hkp
          clear hr hkp
          by_cases hlt : i' < j
          · obtain ⟨cc, cf⟩ := HR.out.cell i' (by rw [ovL_len]; exact hlt)
            have HS := Lib.hid (HR.out.set i' 255)
            rw [ovL_step j i' (fun _ => 255) (fun j => (j : Int)) hlt] at HS
            generalize (ovL j i' (fun _ => 255) (fun j => (j : Int))).getD i' 0 = z at *
            have HK2 : Hid (Keeps (fun i => i = gk) w5 (wr.setCell ⟨gk, i', none⟩ (.int .u8 255))) := Lib.hid (HKP.out.setCell (p := ⟨gk, i', none⟩) (Or.inl rfl) _)
            have b0 : (0 : Int) ≤ (i' : Int) := by omega
            have b1 : (i' : Int) < (j : Int) := by omega
            have hke : ((i' + 1 : Nat) : Int) = (i' : Int) + 1 := by omega
            have hkw : wrap64 ((i' : Int) + 1) = (i' : Int) + 1 := by have := HK.out; unfold wrap64; omega
            go_wp2_with fail
            refine ⟨⟨i' + 1, by omega, by first | rw [hkw, hke] | rw [hke], HS.out, HK2.out⟩, ?_⟩
            try rw [hkw]
            simp only [intOf]
            omega
          · obtain rfl : i' = j := by omega
            rw [ovL_all] at HR
            rename World => wB
            have HMB : Hid (MacAt wA wB q p g tb (upL i') [] v) := Lib.hid (HM5.out.far HKP.out (tab_keep HM5.out.tab HKP.out (by have := HG.out; omega)) (by have := HM5.out.ql; have := HGL.out; omega) (by have := HM5.out.pl; have := HGL.out; omega) (by have := HM5.out.gl; have := HGL.out; omega) (fun b hb => by have := (HM5.out.vl b hb).1; have := HGL.out; omega))
            have HRB := Lib.hid (HRB5.out.same (HKP.out.block gb HRB5.out.lt (by have := HG.out; omega)))
            have HBB : Hid (Below W.heap.size W wB) := Lib.hid (below_fp HB5.out HKP.out (by have := HG.out; intro i hi; omega))
            clear HKP HM5 HRB5 HRK5 HB5
            have HWR := Lib.hid (mac_write HMB.out (some ⟨gb, 0, none⟩) (List.replicate n 0) n n (by simp) HRB.out.ints (inB_zeros n) (Or.inr (fun a ha => by cases ha; have := HMB.out.pl; have := HGL.out; dsimp only; omega)) (by have := HN.out; simp; omega))
            go_wp2_with fail
            refine HWR.out.mono ?_
            rintro e w6 ⟨rfl, v6, hm6, hk6, hf6⟩
            rw [List.nil_append] at hm6
            have HM6 := Lib.hid hm6
            have hfp : ∀ i, fpH p tb v i → i = tb ∨ wA.heap.size ≤ i := fun i hi => by
              rcases hi with h | h | h
              · exact Or.inl h
              · have := HMB.out.pl; exact Or.inr (by omega)
              · exact Or.inr (HMB.out.vl i h).1
            have HR6 := Lib.hid (HR.out.same (hk6.block gk HR.out.lt (fun e => by have := hfp gk e; have := HG.out; have := HGL.out; omega)))
            have HRB6 := Lib.hid (HRB.out.same (hk6.block gb HRB.out.lt (fun e => by have := hfp gb e; have := HG.out; have := HGL.out; omega)))
            have HB6 : Hid (Below W.heap.size W w6) := Lib.hid (below_fp HBB.out hk6 (fun i hi => by have := hfp i hi; have := HLT.out; have := HG.out; have := HGL.out; omega))
            have HSM := Lib.hid (mac_sum hm6 (by have := HN.out; simp; omega))
            clear hm6 hk6 hf6 hfp HWR HR HRB HBB HMB
            go_wp2_with fail
            refine HSM.out.mono ?_
            rintro e w7 ⟨⟨gx, cx, rfl, ht7, ho7, hl7, hk7, hg7⟩, hm7⟩
            have HT7 := Lib.hid ht7
            have HX7 := Lib.hid (owns_at ho7).2.1
            have HXG : Hid (gx ≠ tb ∧ gx ≠ gk ∧ gx < w7.heap.size) := Lib.hid ⟨by have := HM6.out.tab.lt; omega, by have := HR6.out.lt; omega, (ho7.lt gx rfl).2⟩
            have HR7 := Lib.hid (HR6.out.same (hk7.block gk HR6.out.lt (by have := HG.out; omega)))
            have HRB7 := Lib.hid (HRB6.out.same (hk7.block gb HRB6.out.lt (by have := HG.out; omega)))
            have HB7 : Hid (Below W.heap.size W w7) := Lib.hid (below_keeps HB6.out hk7 HLT.out)
            clear ht7 ho7 hl7 hk7 hg7 hm7 HSM HM6 HR6 HRB6 HB6
            go_wp2_with fail
            go_loopw [12] (fun i wr => ∃ j : Nat, j ≤ i' ∧ i = .int .i64 j ∧ RowL wr gk (ovL i' j (fun j => (j : Int)) (fun _ => 255)) ∧ Keeps (fun i => i = gk) w7 wr) (fun i _ => i' - (intOf i).toNat)
            case atStart => exact ⟨0, Nat.zero_le _, rfl, by rw [ovL_zero]; exact HR7.out, Keeps.refl _ _⟩
            case round =>
              obtain ⟨j, hj, rfl, hr, hkp⟩ := hrel
              have HR := Lib.hid hr
              have HKP := Lib.hid hkp
              clear hr hkp
              by_cases hlt : j < i'
              · obtain ⟨cc, cf⟩ := HR.out.cell j (by rw [ovL_len]; exact hlt)
                have HS := Lib.hid (HR.out.set j (j : Int))
                rw [ovL_step i' j (fun j => (j : Int)) (fun _ => 255) hlt] at HS
                generalize (ovL i' j (fun j => (j : Int)) (fun _ => 255)).getD j 0 = z at *
                have HK2 : Hid (Keeps (fun i => i = gk) w7 (wr.setCell ⟨gk, j, none⟩ (.int .u8 j))) := Lib.hid (HKP.out.setCell (p := ⟨gk, j, none⟩) (Or.inl rfl) _)
                have b0 : (0 : Int) ≤ (j : Int) := by omega
                have b1 : (j : Int) < (i' : Int) := by omega
                have b2 : (j : Int) % 256 = (j : Int) := by have := HK.out; omega
                have hke : ((j + 1 : Nat) : Int) = (j : Int) + 1 := by omega
                have hkw : wrap64 ((j : Int) + 1) = (j : Int) + 1 := by have := HK.out; unfold wrap64; omega
                go_wp2_with fail
                refine ⟨⟨j + 1, by omega, by first | rw [hkw, hke] | rw [hke], HS.out, HK2.out⟩, ?_⟩
                try rw [hkw]
                simp only [intOf]
                omega
              · obtain rfl : j = i' := by omega
                rw [ovL_all] at HR
                have HRK : Hid (RowL wr gk (upL j)) := HR
                rename World => wC
                have HTC := Lib.hid (tab_keep HT7.out HKP.out (by have := HG.out; omega))
                have HRB := Lib.hid (HRB7.out.same (HKP.out.block gb HRB7.out.lt (by have := HG.out; omega)))
                have HX := Lib.hid (HX7.out.same (fun a ha hl => HKP.out.block a.block hl (by cases ha; exact HXG.out.2.1)))
                have HBC : Hid (Below W.heap.size W wC) := Lib.hid (below_fp HB7.out HKP.out (by have := HG.out; intro i hi; omega))
                clear HKP HT7 HRB7 HR7 HB7 HR HX7
                go_wp2_with fail
                refine (first3_any wC).mono ?_
                rintro e w8 ⟨rfl, hb8⟩
                have HT8 := Lib.hid (HTC.out.below hb8)
                have HRK8 := Lib.hid (HRK.out.same (hb8.block gk HRK.out.lt))
                have HRB8 := Lib.hid (HRB.out.same (hb8.block gb HRB.out.lt))
                have HX8 := Lib.hid (ints_below HX.out hb8)
                have HB8 : Hid (Below W.heap.size W w8) := Lib.hid (below_step HBC.out hb8)
                clear hb8 HTC HRK HRB HX HBC
                have HML := Lib.hid (macF_len (upL j) (List.replicate n 0))
                have HRM := Lib.hid (rmac_any (some ⟨gk, 0, none⟩) (upL j) j j (some ⟨gb, 0, none⟩) (List.replicate n 0) n n w8 (upL_len j) HRK8.out.ints HUB.out (by have := HK.out; omega) (by simp) HRB8.out.ints (inB_zeros n) (by have := HN.out; omega))
                go_wp2_with fail
                refine HRM.out.mono ?_
                rintro e w9 ⟨ao9, c9, rfl, ho9, hb9, hf9⟩
                have HX9 := Lib.hid (ints_below HX8.out hb9)
                have HT9 := Lib.hid (HT8.out.below hb9)
                have HRK9 := Lib.hid (HRK8.out.same (hb9.block gk HRK8.out.lt))
                have HRB9 := Lib.hid (HRB8.out.same (hb9.block gb HRB8.out.lt))
                have HB9 : Hid (Below W.heap.size W w9) := Lib.hid (below_step HB8.out hb9)
                have HE := Lib.hid (bytes_eq (some ⟨gx, 0, none⟩) ao9 (macF (upL j) (List.replicate n 0)) (macF (upL j) (List.replicate n 0)) 32 (macF (upL j) (List.replicate n 0)).length cx c9 w9 HML.out rfl HX9.out (owns_at ho9).2.1 (macF_inB _ _) (macF_inB _ _))
                rw [eqB_self] at HE
                clear ho9 hb9 hf9
                go_wp2_with fail
                refine HE.out.mono ?_
                rintro e w10 ⟨rfl, rfl⟩
                have HON := Lib.hid (macOne_any tb (some ⟨gk, 0, none⟩) (upL j) j j (some ⟨gb, 0, none⟩) (List.replicate n 0) n n w9 HT9.out (upL_len j) HRK9.out.ints HUB.out (Or.inr (fun a ha => by cases ha; have := HG.out; dsimp only; omega)) (by have := HK.out; omega) (by simp) HRB9.out.ints (inB_zeros n) (Or.inr (fun a ha => by cases ha; have := HG.out; dsimp only; omega)) (by have := HN.out; omega))
                go_wp2_with fail
                refine HON.out.mono ?_
                rintro e w11 ⟨g11, c11, rfl, ht11, ho11, hl11, hk11, hg11⟩
                have HB11 : Hid (Below W.heap.size W w11) := Lib.hid (below_keeps HB9.out hk11 HLT.out)
                have HQ := Lib.hid (equal_any (some ⟨gx, 0, none⟩) (some ⟨g11, 0, none⟩) _ _ 32 32 cx c11 w11 HML.out HML.out (HX9.out.same (fun a ha hl => hk11.block a.block hl (by cases ha; exact HXG.out.1))) (owns_at ho11).2.1 (macF_inB _ _) (macF_inB _ _) (by omega))
                rw [eqB_self] at HQ
                clear ht11 ho11 hl11 hk11 hg11
                go_wp2_with fail
                refine HQ.out.mono ?_
                rintro e w12 ⟨rfl, hb12⟩
                have HB12 : Hid (Below W.heap.size W w12) := Lib.hid (below_step HB11.out hb12)
                clear hb12
                go_wp2
                go_ret
                exact ⟨rfl, HB12.out⟩

theorem walk_macBlocks (K : Int) (wk : (Lit.int .i64 K).wf = true) (N : Int) (wn : (Lit.int .i64 N).wf = true) (W : World) :
    Calls Try.prog 11 #[.int .i64 K, .int .i64 N] W fun e w' => e = .returned (.bool true) ∧ Below W.heap.size W w' := mblocks_core W K N

end Go.Proofs.Ythncpbihnhpacaa
