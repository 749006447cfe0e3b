/- ShaTells is true for every input, and its arguments read behind the call as before; no condition: the walk. -/
import Derived.Test.YthncpbihnhpacaaShaQ
namespace Go.Proofs.Ythncpbihnhpacaa
open Go.RowKit
set_option linter.unusedVariables false
set_option linter.unusedSimpArgs false

set_option maxRecDepth 100000 in
set_option maxHeartbeats 4000000 in
theorem tells2_core (W : World) (ao : Option Addr) (zs : List Int) (n cap : Nat) (hn : zs.length = n) (hz : IntsAt .u8 W ao zs) (hB : InB zs) (i : Int) :
    Calls Try.prog 3 #[.slice ao n cap, .int .i64 i] W fun e w' => e = .returned (.bool true) ∧ Below W.heap.size W w' := by
  have HN := Lib.hid hn
  have HZ := Lib.hid hz
  have HB := Lib.hid hB
  clear hz hB hn
  by_cases hbig : (3000 : Int) < (n : Int)
  · go_enter Try.func3, Try.ntmps3
    go_wp2_with fail
    refine (first2_any W).mono ?_
    rintro e w1 ⟨rfl, hb1⟩
    have HB1 := Lib.hid hb1
    clear hb1
    go_wp2_with fail
    refine (newTable_any w1).mono ?_
    rintro e w2 ⟨rfl, ht2, hb2⟩
    have HB2 : Hid (Below W.heap.size W w2) := Lib.hid (HB1.out.trans (hb2.mono HB1.out.size))
    clear hb2 ht2
    go_wp2_with fail
    refine (first2_any w2).mono ?_
    rintro e w3 ⟨rfl, hb3⟩
    have HB3 : Hid (Below W.heap.size W w3) := Lib.hid (HB2.out.trans (hb3.mono HB2.out.size))
    clear hb3
    go_wp2
    go_ret
    exact ⟨rfl, HB3.out⟩
  · have HS := Lib.hid hbig
    go_enter Try.func3, Try.ntmps3
    go_wp2_with fail
    refine (first2_any W).mono ?_
    rintro e w1 ⟨rfl, hb1⟩
    have HB1 := Lib.hid hb1
    clear hb1
    go_wp2_with fail
    refine (newTable_any w1).mono ?_
    rintro e w2 ⟨rfl, ht2, hb2⟩
    have HT2 := Lib.hid ht2
    have HB2 : Hid (Below W.heap.size W w2) := Lib.hid (HB1.out.trans (hb2.mono HB1.out.size))
    have HL := Lib.hid HB1.out.size
    generalize w1.heap.size = tb at *
    clear hb2 ht2 HB1
    go_wp2_with fail
    refine (first2_any w2).mono ?_
    rintro e w3 ⟨rfl, hb3⟩
    have HB3 : Hid (Below W.heap.size W w3) := Lib.hid (HB2.out.trans (hb3.mono HB2.out.size))
    have HT3 := Lib.hid (HT2.out.below hb3)
    clear hb3
    go_wp2_with fail
    refine (word_any tb i w3 HT3.out).mono ?_
    rintro e w4 ⟨rfl, ht4⟩
    have HT4 := Lib.hid ht4.ok
    have HB4 : Hid (Keeps (fun k => k = tb) w3 w4) := Lib.hid ht4.2
    clear ht4
    go_wp2_with fail
    refine (rword_any i w4).mono ?_
    rintro e w5 ⟨rfl, hb5⟩
    have HT5 := Lib.hid (HT4.out.below hb5)
    have HB5 : Hid (Keeps (fun k => k = tb) w3 w5) := Lib.hid (HB4.out.trans (Keeps.of_below (S := fun _ => False) hb5) (fun _ h => h.elim))
    clear hb5
    go_wp2_with fail
    refine (start_any tb i w5 HT5.out).mono ?_
    rintro e w6 ⟨rfl, ht6⟩
    have HT6 := Lib.hid ht6.ok
    have HB6 : Hid (Keeps (fun k => k = tb) w3 w6) := Lib.hid (HB5.out.trans ht6.2 (fun k h => Or.inl h))
    clear ht6
    go_wp2_with fail
    refine (rstart_any i w6).mono ?_
    rintro e w7 ⟨rfl, hb7⟩
    have HT7 := Lib.hid (HT6.out.below hb7)
    have hk7 : Keeps (fun k => k = tb) w3 w7 := HB6.out.trans (Keeps.of_below (S := fun _ => False) hb7) (fun _ h => h.elim)
    have HB7 : Hid (Below W.heap.size W w7) := Lib.hid (((Keeps.of_below (S := fun _ => False) HB3.out).trans hk7 (fun k h => Or.inr (by have := HL.out; omega))).below (Nat.le_refl _) (fun _ h => h.elim))
    clear hb7 hk7
    have HO7 := Lib.hid (one_any tb ao zs n cap w7 HT7.out HN.out (ints_below HZ.out HB7.out) HB.out (HZ.out.far HL.out) (by have := HS.out; omega))
    go_wp2_with fail
    refine HO7.out.mono ?_
    rintro e w8 ⟨g, c, rfl, ht8, ho8, hl8, hk8, hg8⟩
    have HR8 := Lib.hid (owns_at ho8).2.1
    have HG8 := Lib.hid (ho8.lt g rfl).2
    have HL8 := Lib.hid hl8
    have HB8 : Hid (Below W.heap.size W w8) := Lib.hid (((Keeps.of_below (S := fun _ => False) HB7.out).trans hk8 (fun k h => Or.inr (by have := HL.out; omega))).below (Nat.le_refl _) (fun _ h => h.elim))
    clear ht8 ho8 hl8 hk8 hg8
    have HH8 := Lib.hid (rhash_any ao zs n cap w8 HN.out (ints_below HZ.out HB8.out) HB.out (by have := HS.out; omega))
    go_wp2_with fail
    refine HH8.out.mono ?_
    rintro e w9 ⟨ao9, c9, rfl, ho9, hb9, hf9⟩
    have HE := Lib.hid (bytes_eq (some ⟨g, 0, none⟩) ao9 (shaF zs) (shaF zs) 32 (shaF zs).length c c9 w9 HL8.out rfl (ints_below HR8.out hb9) (owns_at ho9).2.1 (shaF_inB zs) (shaF_inB zs))
    have HB9 : Hid (Below W.heap.size W w9) := Lib.hid (HB8.out.trans (hb9.mono HB8.out.size))
    clear ho9 hb9 hf9
    go_wp2_with fail
    refine HE.out.mono ?_
    rintro e w10 ⟨rfl, rfl⟩
    rw [eqB_self]
    go_wp2
    go_ret
    exact ⟨rfl, HB9.out⟩

theorem walk_shaTells (W : World) (ao : Option Addr) (zs : List Int) (cap : Nat) (hz : IntsAt .u8 W ao zs) (hc : zs.length ≤ cap) (wf : cap ≤ maxLen ∧ ∀ n ∈ zs, (Lit.int .u8 n).wf = true) (i : Int) (w1 : (Lit.int .i64 i).wf = true) :
    Calls Try.prog 3 #[.slice ao zs.length cap, .int .i64 i] W fun e w' => e = .returned (.bool true) ∧ Below W.heap.size W w' :=
  tells2_core W ao zs zs.length cap rfl hz (inB_of_wf wf.2) i

end Go.Proofs.Ythncpbihnhpacaa
