/- Contracts of sha.One, cflref1.Word, cflref1.Start. -/
import Derived.Test.YthncpbihnhpacaaShaR3
namespace Go.Proofs.Ythncpbihnhpacaa
open Go.RowKit
set_option linter.unusedVariables false
set_option linter.unusedSimpArgs false

theorem IntsAt.far {k : IntKind} {w : World} {ao : Option Addr} {zs : List Int} (h : IntsAt k w ao zs) {p : Nat} (hp : w.heap.size ≤ p) : zs = [] ∨ ∀ a, ao = some a → a.block ≠ p := by
  by_cases h0 : zs = []
  · exact Or.inl h0
  · refine Or.inr (fun a ha e => ?_)
    subst ha
    have := h.lt h0
    omega
theorem TabPost.ok {b : Nat} {w w' : World} (h : TabPost b w w') : TabOk w' b := Or.inr h.1

set_option maxHeartbeats 1000000 in
theorem one_any (tb : Nat) (ao : Option Addr) (bs : List Int) (n cap : Nat) (w : World) (ht : TabOk w tb) (hn : bs.length = n) (hz : IntsAt .u8 w ao bs) (hB : InB bs) (hd : bs = [] ∨ ∀ a, ao = some a → a.block ≠ tb) (hlen : n ≤ 1099511627776) :
    Calls Try.prog 21 #[.pointer (some ⟨tb, 0, none⟩), .slice ao n cap] w fun e w' => SumPost w tb (shaF bs) e w' := by
  have HT := Lib.hid ht
  have HN := Lib.hid hn
  have HZ := Lib.hid hz
  have HB := Lib.hid hB
  have HL := Lib.hid hlen
  have HD := Lib.hid hd
  have HNW := Lib.hid (new_any tb w ht)
  clear ht hn hz hB hlen hd
  go_enter Try.func21, Try.ntmps21
  go_wp2_with fail
  refine HNW.out.mono ?_
  rintro e w1 ⟨rfl, ht1, hh1, hk1⟩
  have HK1 := Lib.hid hk1
  have hz1 : IntsAt .u8 w1 ao bs := by
    rcases HD.out with h | h
    · exact Or.inl h
    · exact HZ.out.same (fun a ha hl => hk1.block a.block hl (h a ha))
  have HWR := Lib.hid (write_any w.heap.size tb _ [] w1 ht1 hh1 ao bs n cap HN.out hz1 HB.out (HZ.out.far (Nat.le_refl _)) (by have := HL.out; simp; omega))
  clear ht1 hh1 hk1 hz1
  go_wp2_with fail
  refine HWR.out.mono ?_
  rintro e w2 ⟨rfl, v, ht2, hh2, hk2, hf2⟩
  rw [List.nil_append] at hh2
  have HS := Lib.hid (shaSum_any w.heap.size tb v bs w2 ht2 hh2 (by have := HL.out; have := HN.out; omega))
  have HK2 : Hid (Keeps (fun i => i = tb) w w2) := Lib.hid (HK1.out.trans hk2 (fun i h => by
    rcases h with h | h | h
    · exact Or.inl h
    · exact Or.inr (by omega)
    · cases h))
  clear ht2 hh2 hk2 hf2
  go_wp2_with fail
  refine HS.out.mono ?_
  rintro e w3 ⟨g, c, rfl, ht3, ho3, hl3, hk3, hg3⟩
  have HO3 := Lib.hid ho3
  have HT3 := Lib.hid ht3
  have HL3 := Lib.hid hl3
  have HK3 := Lib.hid (HK2.out.trans hk3 (fun i h => Or.inl h))
  have HG3 := Lib.hid (Nat.le_trans HK2.out.size hg3)
  clear ht3 ho3 hl3 hk3 hg3
  go_wp2
  go_ret
  exact ⟨g, c, rfl, HT3.out, HO3.out, HL3.out, HK3.out, HG3.out⟩

set_option maxHeartbeats 1000000 in
set_option maxRecDepth 100000 in
theorem rword_any (i : Int) (w : World) :
    Calls Try.prog 17 #[.int .i64 i] w fun e w' => e = .returned (.int .u32 (kB i)) ∧ Below w.heap.size w w' := by
  by_cases h0 : i < 0
  · have HR := Lib.hid (show kB i = 0 by unfold kB; rw [if_neg (by omega)])
    go_enter Try.func17, Try.ntmps17
    go_wp2
    go_ret
    exact ⟨ret_int HR.out.symm, Below.refl _ _⟩
  obtain ⟨k, rfl⟩ := Int.eq_ofNat_of_zero_le (Int.not_lt.1 h0)
  by_cases h1 : (63 : Int) < (k : Int)
  · have HR := Lib.hid (show kB k = 0 by unfold kB; rw [if_neg (by omega)])
    go_enter Try.func17, Try.ntmps17
    go_wp2
    go_ret
    exact ⟨ret_int HR.out.symm, Below.refl _ _⟩
  have HR := Lib.hid (show kB k = kAt k by unfold kB; rw [if_pos (by omega)]; rfl)
  have j1 : (k : Int) < 64 := by omega
  have j0 : (0 : Int) ≤ (k : Int) := by omega
  go_enter Try.func17, Try.ntmps17
  go_wp2_with fail
  refine (words_any w).mono ?_
  rintro e w1 ⟨rfl, hb1⟩
  have HB1 := Lib.hid hb1
  clear hb1
  go_upto_region 4 with (refine wpList_store_row rfl 66 _ _ rfl w1.heap.size wordsV rfl rfl 66 za (heap_alloc_new _ _) (by rw [wordsV_size]; kernel_rfl) (by rw [wordsV_size, za_size]; try rfl) wordsV_one ?_)
  obtain ⟨w2, hw2⟩ : ∃ w2, w2 = (w1.alloc (.cells za 66)).setRow w1.heap.size wordsV := ⟨_, rfl⟩
  have hc : w2.cell? ⟨w1.heap.size, k, none⟩ = some (.int .u32 (kAt k)) := by
    have h1 : w2.heap[w1.heap.size]? = some (.cells wordsV 66 (0, 0)) := by rw [hw2]; exact setRow_heap _ _ _ _ _ _ (heap_alloc_new _ _)
    exact (blk_cell h1 k).trans (wordsV_at k (by omega))
  have HB2 : Hid (Below w.heap.size w w2) := Lib.hid (by
    have h1 : Below w.heap.size w (w1.alloc (.cells za 66)) := HB1.out.alloc HB1.out.size _
    rw [hw2]
    exact ⟨h1.os, h1.tape, h1.output, by have := h1.size; simp only [World.setRow, Array.size_modify]; exact this, fun i hi => (setRow_other _ _ _ _ (by have := HB1.out.size; omega)).trans (h1.block i hi)⟩)
  unfold za at hw2
  rw [← hw2]
  clear hw2
  go_wp2
  go_ret
  exact ⟨ret_int HR.out.symm, HB2.out⟩

set_option maxHeartbeats 1000000 in
set_option maxRecDepth 100000 in
theorem rstart_any (i : Int) (w : World) :
    Calls Try.prog 19 #[.int .i64 i] w fun e w' => e = .returned (.int .u32 (hB i)) ∧ Below w.heap.size w w' := by
  by_cases h0 : i < 0
  · have HR := Lib.hid (show hB i = 0 by unfold hB; rw [if_neg (by omega)])
    go_enter Try.func19, Try.ntmps19
    go_wp2
    go_ret
    exact ⟨ret_int HR.out.symm, Below.refl _ _⟩
  obtain ⟨k, rfl⟩ := Int.eq_ofNat_of_zero_le (Int.not_lt.1 h0)
  by_cases h1 : (7 : Int) < (k : Int)
  · have HR := Lib.hid (show hB k = 0 by unfold hB; rw [if_neg (by omega)])
    go_enter Try.func19, Try.ntmps19
    go_wp2
    go_ret
    exact ⟨ret_int HR.out.symm, Below.refl _ _⟩
  have HR := Lib.hid (show hB k = hAt k by unfold hB; rw [if_pos (by omega)]; rfl)
  have j1 : (k : Int) < 8 := by omega
  have j0 : (0 : Int) ≤ (k : Int) := by omega
  go_enter Try.func19, Try.ntmps19
  go_wp2_with fail
  refine (starts_any w).mono ?_
  rintro e w1 ⟨rfl, hb1⟩
  have HB1 := Lib.hid hb1
  clear hb1
  go_upto_region 4 with (refine wpList_store_row rfl 67 _ _ rfl w1.heap.size startsV rfl rfl 67 #[.int .u32 0, .int .u32 0, .int .u32 0, .int .u32 0, .int .u32 0, .int .u32 0, .int .u32 0, .int .u32 0] (heap_alloc_new _ _) (by rw [startsV_size]; kernel_rfl) (by rw [startsV_size]; try rfl) startsV_one ?_)
  obtain ⟨w2, hw2⟩ : ∃ w2, w2 = (w1.alloc (.cells #[.int .u32 0, .int .u32 0, .int .u32 0, .int .u32 0, .int .u32 0, .int .u32 0, .int .u32 0, .int .u32 0] 67)).setRow w1.heap.size startsV := ⟨_, rfl⟩
  have hc : w2.cell? ⟨w1.heap.size, k, none⟩ = some (.int .u32 (hAt k)) := by
    have h1 : w2.heap[w1.heap.size]? = some (.cells startsV 67 (0, 0)) := by rw [hw2]; exact setRow_heap _ _ _ _ _ _ (heap_alloc_new _ _)
    exact (blk_cell h1 k).trans (startsV_at k (by omega))
  have HB2 : Hid (Below w.heap.size w w2) := Lib.hid (by
    have h1 : Below w.heap.size w (w1.alloc (.cells #[.int .u32 0, .int .u32 0, .int .u32 0, .int .u32 0, .int .u32 0, .int .u32 0, .int .u32 0, .int .u32 0] 67)) := HB1.out.alloc HB1.out.size _
    rw [hw2]
    exact ⟨h1.os, h1.tape, h1.output, by have := h1.size; simp only [World.setRow, Array.size_modify]; exact this, fun i hi => (setRow_other _ _ _ _ (by have := HB1.out.size; omega)).trans (h1.block i hi)⟩)
  rw [← hw2]
  clear hw2
  go_wp2
  go_ret
  exact ⟨ret_int HR.out.symm, HB2.out⟩

end Go.Proofs.Ythncpbihnhpacaa
