/- MacKeys is true for every input, and its arguments read behind the call as before; no condition: the walk. -/
import Derived.Test.YthncpbihnhpacaaMac4
namespace Go.Proofs.Ythncpbihnhpacaa
open Go.RowKit
set_option linter.unusedVariables false
set_option linter.unusedSimpArgs false

set_option maxRecDepth 100000 in
set_option maxHeartbeats 4000000 in
theorem mkeys_core (W : World) (ao : Option Addr) (zs : List Int) (n cap : Nat) (hn : zs.length = n) (hz : IntsAt .u8 W ao zs) (hB : InB zs) (a b : Int) :
    Calls Try.prog 13 #[.slice ao n cap, .int .i64 a, .int .i64 b] W fun e w' => e = .returned (.bool true) ∧ Below W.heap.size W w' := by
  have HN := Lib.hid hn
  have HZ := Lib.hid hz
  have HB := Lib.hid hB
  clear hz hB hn
  go_enter Try.func13, Try.ntmps13
  go_wp2_with fail
  refine (first3_any W).mono ?_
  rintro e w1 ⟨rfl, hb1⟩
  have HB1 : Hid (Below W.heap.size W w1) := Lib.hid (hb1)
  clear hb1
  go_wp2_with fail
  refine (newTable_any w1).mono ?_
  rintro e w2 ⟨rfl, ht2, hb2⟩
  have HT2 := Lib.hid ht2
  have HB2 : Hid (Below W.heap.size W w2) := Lib.hid (below_step HB1.out hb2)
  have HLT := Lib.hid HB1.out.size
  generalize w1.heap.size = tb at *
  clear hb2 ht2 HB1
  by_cases hq0 : (200 : Int) < (n : Int)
  · go_wp2_with fail
    refine (first3_any w2).mono ?_
    rintro e w90 ⟨rfl, hb90⟩
    have HB90 : Hid (Below W.heap.size W w90) := Lib.hid (below_step HB2.out hb90)
    clear hb90
    go_wp2
    go_ret
    exact ⟨rfl, HB90.out⟩
  by_cases hq1 : a < 0
  · go_wp2_with fail
    refine (first3_any w2).mono ?_
    rintro e w90 ⟨rfl, hb90⟩
    have HB90 : Hid (Below W.heap.size W w90) := Lib.hid (below_step HB2.out hb90)
    clear hb90
    go_wp2
    go_ret
    exact ⟨rfl, HB90.out⟩
  by_cases hq2 : (15 : Int) < a
  · go_wp2_with fail
    refine (first3_any w2).mono ?_
    rintro e w90 ⟨rfl, hb90⟩
    have HB90 : Hid (Below W.heap.size W w90) := Lib.hid (below_step HB2.out hb90)
    clear hb90
    go_wp2
    go_ret
    exact ⟨rfl, HB90.out⟩
  by_cases hq3 : b < 0
  · go_wp2_with fail
    refine (first3_any w2).mono ?_
    rintro e w90 ⟨rfl, hb90⟩
    have HB90 : Hid (Below W.heap.size W w90) := Lib.hid (below_step HB2.out hb90)
    clear hb90
    go_wp2
    go_ret
    exact ⟨rfl, HB90.out⟩
  by_cases hq4 : (15 : Int) < b
  · go_wp2_with fail
    refine (first3_any w2).mono ?_
    rintro e w90 ⟨rfl, hb90⟩
    have HB90 : Hid (Below W.heap.size W w90) := Lib.hid (below_step HB2.out hb90)
    clear hb90
    go_wp2
    go_ret
    exact ⟨rfl, HB90.out⟩
  have HBN := Lib.hid hq0
  have HA0 : Hid (a % 256 = a) := Lib.hid (Int.emod_eq_of_lt (by omega) (by omega))
  go_upto_region 6 with fail
  clear hq0 hq1 hq2 hq3 hq4
  have HK3 := Lib.hid (macKey_any tb ao zs n cap a 0 w2 HT2.out HN.out (ints_below HZ.out HB2.out) HB.out (HZ.out.far HLT.out) (by have := HBN.out; omega))
  go_wp2_with fail
  refine HK3.out.mono ?_
  rintro e w3 ⟨g3, c3, rfl, ht3, ho3, hl3, hk3, hg3⟩
  have HT3 := Lib.hid ht3
  have HG3 : Hid (g3 ≠ tb) := Lib.hid (by have := HT2.out.lt; omega)
  have HI3 := Lib.hid (owns_at ho3).2.1
  have HB3 : Hid (Below W.heap.size W w3) := Lib.hid (below_keeps HB2.out hk3 HLT.out)
  clear ht3 ho3 hl3 hk3 hg3
  have HK4 := Lib.hid (macKey_any tb ao zs n cap b 1 w3 HT3.out HN.out (ints_below HZ.out HB3.out) HB.out (HZ.out.far HLT.out) (by have := HBN.out; omega))
  go_wp2_with fail
  refine HK4.out.mono ?_
  rintro e w4 ⟨g4, c4, rfl, ht4, ho4, hl4, hk4, hg4⟩
  have HT4 := Lib.hid ht4
  have HG4 : Hid (g4 ≠ tb) := Lib.hid (by have := HT3.out.lt; omega)
  have HI4 := Lib.hid (owns_at ho4).2.1
  have HB4 : Hid (Below W.heap.size W w4) := Lib.hid (below_keeps HB3.out hk4 HLT.out)
  have HI3b : Hid (IntsAt .u8 w4 (some ⟨g3, 0, none⟩) (macF zs (keyB a 0))) := Lib.hid (HI3.out.same (fun a ha hl => hk4.block a.block hl (by cases ha; exact HG3.out)))
  clear ht4 ho4 hl4 hk4 hg4
  have HK5 := Lib.hid (macKey_any tb ao zs n cap 255 0 w4 HT4.out HN.out (ints_below HZ.out HB4.out) HB.out (HZ.out.far HLT.out) (by have := HBN.out; omega))
  go_wp2_with fail
  refine HK5.out.mono ?_
  rintro e w5 ⟨g5, c5, rfl, ht5, ho5, hl5, hk5, hg5⟩
  have HT5 := Lib.hid ht5
  have HG5 : Hid (g5 ≠ tb) := Lib.hid (by have := HT4.out.lt; omega)
  have HI5 := Lib.hid (owns_at ho5).2.1
  have HB5 : Hid (Below W.heap.size W w5) := Lib.hid (below_keeps HB4.out hk5 HLT.out)
  have HI3c : Hid (IntsAt .u8 w5 (some ⟨g3, 0, none⟩) (macF zs (keyB a 0))) := Lib.hid (HI3b.out.same (fun a ha hl => hk5.block a.block hl (by cases ha; exact HG3.out)))
  have HI4b : Hid (IntsAt .u8 w5 (some ⟨g4, 0, none⟩) (macF zs (keyB b 1))) := Lib.hid (HI4.out.same (fun a ha hl => hk5.block a.block hl (by cases ha; exact HG4.out)))
  clear ht5 ho5 hl5 hk5 hg5
  clear HT2 HB2 HT3 HB3 HT4 HB4 HK3 HK4 HK5
  go_wp2_with fail
  refine (first3_any w5).mono ?_
  rintro e w6 ⟨rfl, hb6⟩
  have HB6 : Hid (Below W.heap.size W w6) := Lib.hid (below_step HB5.out hb6)
  have HT6 := Lib.hid (HT5.out.below hb6)
  have HX6 := Lib.hid (ints_below HI3c.out hb6)
  have HY6 := Lib.hid (ints_below HI4b.out hb6)
  have HZ6 := Lib.hid (ints_below HI5.out hb6)
  clear hb6
  have HLX := Lib.hid (macF_len zs (keyB a 0))
  have HLY := Lib.hid (macF_len zs (keyB b 1))
  have HLZ := Lib.hid (macF_len zs (keyB 255 0))
  have HQ := Lib.hid (equal_any (some ⟨g3, 0, none⟩) (some ⟨g4, 0, none⟩) _ _ 32 32 c3 c4 w6 HLX.out HLY.out HX6.out HY6.out (macF_inB _ _) (macF_inB _ _) (by omega))
  go_wp2_with fail
  refine HQ.out.mono ?_
  rintro e w7 ⟨rfl, hb7⟩
  have HT7 := Lib.hid (HT6.out.below hb7)
  have HX7 := Lib.hid (ints_below HX6.out hb7)
  have HZ7 := Lib.hid (ints_below HZ6.out hb7)
  have HB7 : Hid (Below W.heap.size W w7) := Lib.hid (below_step HB6.out hb7)
  clear hb7
  have HRK8 := Lib.hid (rkey_any ao zs n cap a 0 w7 HN.out (ints_below HZ.out HB7.out) HB.out (by have := HBN.out; omega))
  go_wp2_with fail
  refine HRK8.out.mono ?_
  rintro e w8 ⟨ao8, c8, rfl, ho8, hb8, hf8⟩
  have HO8 := Lib.hid (owns_at ho8).2.1
  have HT8 := Lib.hid (HT7.out.below hb8)
  have HB8 : Hid (Below W.heap.size W w8) := Lib.hid (below_step HB7.out hb8)
  have HX8 := Lib.hid (ints_below HX7.out hb8)
  have HZ8 := Lib.hid (ints_below HZ7.out hb8)
  clear ho8 hb8 hf8
  have HRK9 := Lib.hid (rkey_any ao zs n cap b 1 w8 HN.out (ints_below HZ.out HB8.out) HB.out (by have := HBN.out; omega))
  go_wp2_with fail
  refine HRK9.out.mono ?_
  rintro e w9 ⟨ao9, c9, rfl, ho9, hb9, hf9⟩
  have HO9 := Lib.hid (owns_at ho9).2.1
  have HT9 := Lib.hid (HT8.out.below hb9)
  have HB9 : Hid (Below W.heap.size W w9) := Lib.hid (below_step HB8.out hb9)
  have HX9 := Lib.hid (ints_below HX8.out hb9)
  have HZ9 := Lib.hid (ints_below HZ8.out hb9)
  have HE9 := Lib.hid (bytes_eq ao8 ao9 (macF zs (keyB a 0)) (macF zs (keyB b 1)) _ _ c8 c9 w9 rfl rfl (ints_below HO8.out hb9) HO9.out (macF_inB _ _) (macF_inB _ _))
  clear ho9 hb9 hf9
  go_wp2_with fail
  refine HE9.out.mono ?_
  rintro e w10 ⟨rfl, rfl⟩
  generalize eqB (macF zs (keyB a 0)) (macF zs (keyB b 1)) = B1 at *
  have HQ2 := Lib.hid (equal_any (some ⟨g3, 0, none⟩) (some ⟨g5, 0, none⟩) _ _ 32 32 c3 c5 w9 HLX.out HLZ.out HX9.out HZ9.out (macF_inB _ _) (macF_inB _ _) (by omega))
  go_wp2_with fail
  refine HQ2.out.mono ?_
  rintro e w11 ⟨rfl, hb11⟩
  have HT11 := Lib.hid (HT9.out.below hb11)
  have HX11 := Lib.hid (ints_below HX9.out hb11)
  have HB11 : Hid (Below W.heap.size W w11) := Lib.hid (below_step HB9.out hb11)
  clear hb11
  have HRK12 := Lib.hid (rkey_any ao zs n cap a 0 w11 HN.out (ints_below HZ.out HB11.out) HB.out (by have := HBN.out; omega))
  go_wp2_with fail
  refine HRK12.out.mono ?_
  rintro e w12 ⟨ao12, c12, rfl, ho12, hb12, hf12⟩
  have HO12 := Lib.hid (owns_at ho12).2.1
  have HT12 := Lib.hid (HT11.out.below hb12)
  have HB12 : Hid (Below W.heap.size W w12) := Lib.hid (below_step HB11.out hb12)
  have HX12 := Lib.hid (ints_below HX11.out hb12)
  clear ho12 hb12 hf12
  have HRK13 := Lib.hid (rkey_any ao zs n cap 255 0 w12 HN.out (ints_below HZ.out HB12.out) HB.out (by have := HBN.out; omega))
  go_wp2_with fail
  refine HRK13.out.mono ?_
  rintro e w13 ⟨ao13, c13, rfl, ho13, hb13, hf13⟩
  have HO13 := Lib.hid (owns_at ho13).2.1
  have HT13 := Lib.hid (HT12.out.below hb13)
  have HB13 : Hid (Below W.heap.size W w13) := Lib.hid (below_step HB12.out hb13)
  have HX13 := Lib.hid (ints_below HX12.out hb13)
  have HE13 := Lib.hid (bytes_eq ao12 ao13 (macF zs (keyB a 0)) (macF zs (keyB 255 0)) _ _ c12 c13 w13 rfl rfl (ints_below HO12.out hb13) HO13.out (macF_inB _ _) (macF_inB _ _))
  clear ho13 hb13 hf13
  go_wp2_with fail
  refine HE13.out.mono ?_
  rintro e w14 ⟨rfl, rfl⟩
  generalize eqB (macF zs (keyB a 0)) (macF zs (keyB 255 0)) = B2 at *
  obtain ⟨w15, hw15⟩ : ∃ w15, w15 = w13.alloc (.cells #[.int .u8 a, .int .u8 0] 5) := ⟨_, rfl⟩
  have hb15 : Below w13.heap.size w13 w15 := by rw [hw15]; exact (Below.refl _ _).alloc (Nat.le_refl _) _
  have HR15 : Hid (RowL w15 w13.heap.size (keyB a 0)) := Lib.hid (by unfold keyB; rw [hw15, HA0.out]; exact heap_alloc_new _ _)
  have HB15 : Hid (Below W.heap.size W w15) := Lib.hid (below_step HB13.out hb15)
  have HX15 := Lib.hid (ints_below HX13.out hb15)
  have HON := Lib.hid (macOne_any tb ao zs n cap (some ⟨w13.heap.size, 0, none⟩) (keyB a 0) 2 2 w15 (HT13.out.below hb15) HN.out (ints_below HZ.out HB15.out) HB.out (HZ.out.far HLT.out) (by have := HBN.out; omega) rfl HR15.out.ints (keyB_inB _ _) (Or.inr (fun p hp => by cases hp; have := HT13.out.lt; dsimp only; omega)) (by omega))
  have HW15 := Lib.hid hw15
  clear hw15 hb15
  go_wp2_with fail
  rw [← HW15.out]
  refine HON.out.mono ?_
  rintro e w16 ⟨g16, c16, rfl, ht16, ho16, hl16, hk16, hg16⟩
  have HQ3 := Lib.hid (equal_any (some ⟨g3, 0, none⟩) (some ⟨g16, 0, none⟩) _ _ 32 32 c3 c16 w16 HLX.out HLX.out (HX15.out.same (fun a ha hl => hk16.block a.block hl (by cases ha; exact HG3.out))) (owns_at ho16).2.1 (macF_inB _ _) (macF_inB _ _) (by omega))
  have HB16 : Hid (Below W.heap.size W w16) := Lib.hid (below_keeps HB15.out hk16 HLT.out)
  clear ht16 ho16 hl16 hk16 hg16
  go_wp2_with fail
  refine HQ3.out.mono ?_
  rintro e w17 ⟨rfl, hb17⟩
  rw [eqB_self]
  have HB17 : Hid (Below W.heap.size W w17) := Lib.hid (below_step HB16.out hb17)
  clear hb17
  go_wp2
  go_ret
  exact ⟨rfl, HB17.out⟩

theorem walk_macKeys (W : World) (ao : Option Addr) (zs : List Int) (cap : Nat) (hz : IntsAt .u8 W ao zs) (hc : zs.length ≤ cap) (wf : cap ≤ maxLen ∧ ∀ n ∈ zs, (Lit.int .u8 n).wf = true) (a : Int) (wa : (Lit.int .i64 a).wf = true) (b : Int) (wb : (Lit.int .i64 b).wf = true) :
    Calls Try.prog 13 #[.slice ao zs.length cap, .int .i64 a, .int .i64 b] W fun e w' => e = .returned (.bool true) ∧ Below W.heap.size W w' :=
  mkeys_core W ao zs zs.length cap rfl hz (inB_of_wf wf.2) a b

end Go.Proofs.Ythncpbihnhpacaa
