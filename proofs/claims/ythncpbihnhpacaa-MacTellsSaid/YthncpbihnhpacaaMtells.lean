/- MacTells is true for every input, and its arguments read behind the call as before; no condition: the walk. -/
import Derived.Test.YthncpbihnhpacaaMac4
namespace Go.Proofs.Ythncpbihnhpacaa
open Go.RowKit
set_option linter.unusedVariables false
set_option linter.unusedSimpArgs false

set_option maxRecDepth 100000 in
set_option maxHeartbeats 4000000 in
theorem mtells_core (W : World) (ao : Option Addr) (zs : List Int) (n cap : Nat) (hn : zs.length = n) (hz : IntsAt .u8 W ao zs) (hB : InB zs) (bo : Option Addr) (ys : List Int) (m d : Nat) (hm : ys.length = m) (hy : IntsAt .u8 W bo ys) (hC : InB ys) (x y : Int) :
    Calls Try.prog 12 #[.slice ao n cap, .slice bo m d, .int .i64 x, .int .i64 y] W fun e w' => e = .returned (.bool true) ∧ Below W.heap.size W w' := by
  have HN := Lib.hid hn
  have HZ := Lib.hid hz
  have HB := Lib.hid hB
  have HM := Lib.hid hm
  have HY := Lib.hid hy
  have HC := Lib.hid hC
  clear hz hB hn hy hC hm
  go_enter Try.func12, Try.ntmps12
  go_wp2_with fail
  refine (first3_any W).mono ?_
  rintro e w1 ⟨rfl, hb1⟩
  have HB1 : Hid (Below W.heap.size W w1) := Lib.hid (hb1)
  clear hb1
  go_wp2_with fail
  refine (newTable_any w1).mono ?_
  rintro e w2 ⟨rfl, ht2, hb2⟩
  have HT2 := Lib.hid ht2
  have HB2 : Hid (Below W.heap.size W w2) := Lib.hid (below_step HB1.out hb2)
  have HLT := Lib.hid HB1.out.size
  generalize w1.heap.size = tb at *
  clear hb2 ht2 HB1
  by_cases hbig : (1000 : Int) < (n : Int)
  · go_wp2_with fail
    refine (first3_any w2).mono ?_
    rintro e w90 ⟨rfl, hb90⟩
    have HB90 : Hid (Below W.heap.size W w90) := Lib.hid (below_step HB2.out hb90)
    clear hb90
    go_wp2
    go_ret
    exact ⟨rfl, HB90.out⟩
  by_cases hbig2 : (1000 : Int) < (m : Int)
  · go_wp2_with fail
    refine (first3_any w2).mono ?_
    rintro e w90 ⟨rfl, hb90⟩
    have HB90 : Hid (Below W.heap.size W w90) := Lib.hid (below_step HB2.out hb90)
    clear hb90
    go_wp2
    go_ret
    exact ⟨rfl, HB90.out⟩
  go_wp2_with fail
  refine (first3_any w2).mono ?_
  rintro e w3 ⟨rfl, hb3⟩
  have HB3 : Hid (Below W.heap.size W w3) := Lib.hid (below_step HB2.out hb3)
  have HT3 := Lib.hid (HT2.out.below hb3)
  have HBN := Lib.hid hbig
  have HBM := Lib.hid hbig2
  clear hb3 hbig hbig2
  have HL4 := Lib.hid (macF_len zs ys)
  have HON := Lib.hid (macOne_any tb ao zs n cap bo ys m d w3 HT3.out HN.out (ints_below HZ.out HB3.out) HB.out (HZ.out.far HLT.out) (by have := HBN.out; omega) HM.out (ints_below HY.out HB3.out) HC.out (HY.out.far HLT.out) (by have := HBM.out; omega))
  go_wp2_with fail
  refine HON.out.mono ?_
  rintro e w4 ⟨g4, c4, rfl, ht4, ho4, hl4, hk4, hg4⟩
  have HT4 := Lib.hid ht4
  have HI4 := Lib.hid (owns_at ho4).2.1
  have HB4 : Hid (Below W.heap.size W w4) := Lib.hid (below_keeps HB3.out hk4 HLT.out)
  clear ht4 ho4 hl4 hk4 hg4
  have HRM := Lib.hid (rmac_any ao zs n cap bo ys m d w4 HN.out (ints_below HZ.out HB4.out) HB.out (by have := HBN.out; omega) HM.out (ints_below HY.out HB4.out) HC.out (by have := HBM.out; omega))
  go_wp2_with fail
  refine HRM.out.mono ?_
  rintro e w5 ⟨ao5, c5, rfl, ho5, hb5, hf5⟩
  have HE5 := Lib.hid (bytes_eq (some ⟨g4, 0, none⟩) ao5 (macF zs ys) (macF zs ys) 32 (macF zs ys).length c4 c5 w5 HL4.out rfl (ints_below HI4.out hb5) (owns_at ho5).2.1 (macF_inB _ _) (macF_inB _ _))
  have HT5 := Lib.hid (HT4.out.below hb5)
  have HB5 : Hid (Below W.heap.size W w5) := Lib.hid (below_step HB4.out hb5)
  clear ho5 hb5 hf5
  go_wp2_with fail
  refine HE5.out.mono ?_
  rintro e w6 ⟨rfl, rfl⟩
  rw [eqB_self]
  have HQ := Lib.hid (equal_any ao bo zs ys n m cap d w5 HN.out HM.out (ints_below HZ.out HB5.out) (ints_below HY.out HB5.out) HB.out HC.out (by have := HBN.out; omega))
  go_wp2_with fail
  refine HQ.out.mono ?_
  rintro e w7 ⟨rfl, hb7⟩
  have HT7 := Lib.hid (HT5.out.below hb7)
  have HB7 : Hid (Below W.heap.size W w7) := Lib.hid (below_step HB5.out hb7)
  have HE7 := Lib.hid (bytes_eq ao bo zs ys n m cap d w7 HN.out HM.out (ints_below HZ.out HB7.out) (ints_below HY.out HB7.out) HB.out HC.out)
  clear hb7
  go_wp2_with fail
  refine HE7.out.mono ?_
  rintro e w8 ⟨rfl, rfl⟩
  have HQ2 := Lib.hid (equal_any bo bo ys ys m m d d w7 HM.out HM.out (ints_below HY.out HB7.out) (ints_below HY.out HB7.out) HC.out HC.out (by have := HBM.out; omega))
  generalize eqB zs ys = B at *
  go_wp2_with fail
  refine HQ2.out.mono ?_
  rintro e w9 ⟨rfl, hb9⟩
  rw [eqB_self]
  have HT9 := Lib.hid (HT7.out.below hb9)
  have HB9 : Hid (Below W.heap.size W w9) := Lib.hid (below_step HB7.out hb9)
  clear hb9
  have HK9 := Lib.hid (macKey_any tb ao zs n cap x y w9 HT9.out HN.out (ints_below HZ.out HB9.out) HB.out (HZ.out.far HLT.out) (by have := HBN.out; omega))
  have HLK := Lib.hid (macF_len zs (keyB x y))
  go_wp2_with fail
  refine HK9.out.mono ?_
  rintro e w10 ⟨g10, c10, rfl, ht10, ho10, hl10, hk10, hg10⟩
  have HI10 := Lib.hid (owns_at ho10).2.1
  have HB10 : Hid (Below W.heap.size W w10) := Lib.hid (below_keeps HB9.out hk10 HLT.out)
  clear ht10 ho10 hl10 hk10 hg10
  have HRK := Lib.hid (rkey_any ao zs n cap x y w10 HN.out (ints_below HZ.out HB10.out) HB.out (by have := HBN.out; omega))
  go_wp2_with fail
  refine HRK.out.mono ?_
  rintro e w11 ⟨ao11, c11, rfl, ho11, hb11, hf11⟩
  have HE11 := Lib.hid (bytes_eq (some ⟨g10, 0, none⟩) ao11 (macF zs (keyB x y)) (macF zs (keyB x y)) 32 (macF zs (keyB x y)).length c10 c11 w11 HLK.out rfl (ints_below HI10.out hb11) (owns_at ho11).2.1 (macF_inB _ _) (macF_inB _ _))
  have HB11 : Hid (Below W.heap.size W w11) := Lib.hid (below_step HB10.out hb11)
  clear ho11 hb11 hf11
  go_wp2_with fail
  refine HE11.out.mono ?_
  rintro e w12 ⟨rfl, rfl⟩
  rw [eqB_self]
  go_wp2
  go_ret
  exact ⟨rfl, HB11.out⟩

theorem walk_macTells (W : World) (ao : Option Addr) (zs : List Int) (cap : Nat) (hz : IntsAt .u8 W ao zs) (hc : zs.length ≤ cap) (wf : cap ≤ maxLen ∧ ∀ n ∈ zs, (Lit.int .u8 n).wf = true) (bo : Option Addr) (ys : List Int) (d : Nat) (hy : IntsAt .u8 W bo ys) (hc2 : ys.length ≤ d) (wf2 : d ≤ maxLen ∧ ∀ n ∈ ys, (Lit.int .u8 n).wf = true) (x : Int) (wx : (Lit.int .i64 x).wf = true) (y : Int) (wy : (Lit.int .i64 y).wf = true) :
    Calls Try.prog 12 #[.slice ao zs.length cap, .slice bo ys.length d, .int .i64 x, .int .i64 y] W fun e w' => e = .returned (.bool true) ∧ Below W.heap.size W w' :=
  mtells_core W ao zs zs.length cap rfl hz (inB_of_wf wf.2) bo ys ys.length d rfl hy (inB_of_wf wf2.2) x y

end Go.Proofs.Ythncpbihnhpacaa
