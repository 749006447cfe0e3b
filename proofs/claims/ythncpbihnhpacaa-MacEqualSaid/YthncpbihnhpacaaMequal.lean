/- MacEqual is true for every input, and its arguments read behind the call as before; no condition: the walk. -/
import Derived.Test.YthncpbihnhpacaaMac4
namespace Go.Proofs.Ythncpbihnhpacaa
open Go.RowKit
set_option linter.unusedVariables false
set_option linter.unusedSimpArgs false

/-- A byte of a row of one's own is turned. -/
theorem own_cell {w : World} {ao : Option Addr} {n cap : Nat} {zs : List Int} (h : w.ownsRow 0 5 1 (.slice ao n cap) n (zs.map (Value.int .u8))) (i : Nat) (hi : i < n) :
    ∃ g, ao = some ⟨g, 0, none⟩ ∧ w.cell? ⟨g, i, none⟩ = some (.int .u8 (zs.getD i 0)) ∧ w.frozen? ⟨g, i, none⟩ = false ∧ ∀ v, (w.setCell ⟨g, i, none⟩ (.int .u8 v)).ownsRow 0 5 1 (.slice ao n cap) n ((zs.set i v).map (Value.int .u8)) := by
  have hl : zs.length = n := (owns_at h).1
  have hat := (owns_at h).2.1
  rcases h.2 with ⟨_, hn⟩ | ⟨g, cap', cur, hv, _, hh, hn, hm, hs, ht⟩
  · omega
  · simp only [Value.slice.injEq] at hv
    obtain ⟨rfl, _, rfl⟩ := hv
    refine ⟨g, rfl, ?_, blk_frozen hh i, fun v => ⟨by simp [hl], Or.inr ⟨g, cap, _, rfl, Nat.zero_le _, blk_set hh i _, hn, hm, by simpa using hs, ?_⟩⟩⟩
    · rcases hat with h | ⟨b, off, h1, h2⟩
      · rw [h] at hl; simp at hl; omega
      · cases h1
        have := h2 i (by omega)
        rwa [Nat.zero_add] at this
    · rw [Nat.mul_one] at ht ⊢
      rw [Array.toList_setIfInBounds, List.take_set, ht, List.map_set]

theorem eqB_set {zs : List Int} (hB : InB zs) (k : Nat) (hk : k < zs.length) (t : Int) (h0 : 0 ≤ t) (h1 : t < 256) : eqB zs (zs.set k (bits .xor .u8 (zs.getD k 0) t)) = (t == 0) := by
  have hz := inB_getD hB k
  unfold eqB
  rw [Bool.eq_iff_iff]
  simp only [decide_eq_true_eq, beq_iff_eq]
  have hx := u8_xor (zs.getD k 0) t hz.1 hz.2 h0 h1
  constructor
  · intro h
    have h2 := congrArg (fun l => l.getD k 0) h
    simp only [List.getD_eq_getElem?_getD, List.getElem?_set_self hk, Option.getD_some] at h2
    rw [← List.getD_eq_getElem?_getD, hx] at h2
    have h3 : (zs.getD k 0).toNat ^^^ t.toNat = (zs.getD k 0).toNat := by omega
    have h4 : (zs.getD k 0).toNat ^^^ ((zs.getD k 0).toNat ^^^ t.toNat) = 0 := by rw [h3, Nat.xor_self]
    rw [← Nat.xor_assoc, Nat.xor_self, Nat.zero_xor] at h4
    omega
  · rintro rfl
    rw [hx, Int.toNat_zero, Nat.xor_zero, Int.toNat_of_nonneg hz.1]
    have : zs.getD k 0 = zs[k] := by simp [List.getD, hk]
    rw [this, List.set_getElem_self]
theorem eqB_len {xs ys : List Int} (h : xs.length ≠ ys.length) : eqB xs ys = false := decide_eq_false (fun e => h (by rw [e]))

set_option maxRecDepth 100000 in
set_option maxHeartbeats 4000000 in
theorem mequal_core (W : World) (ao : Option Addr) (zs : List Int) (n cap : Nat) (hn : zs.length = n) (hz : IntsAt .u8 W ao zs) (hB : InB zs) (hc : n ≤ cap) (a : Int) (t : Int) (h0 : 0 ≤ t) (h1 : t < 256) :
    Calls Try.prog 10 #[.slice ao n cap, .int .i64 a, .int .u8 t] W fun e w' => e = .returned (.bool true) ∧ Below W.heap.size W w' := by
  have HN := Lib.hid hn
  have HZ := Lib.hid hz
  have HB := Lib.hid hB
  have HT0 := Lib.hid h0
  have HT1 := Lib.hid h1
  have HCP := Lib.hid hc
  clear hz hB hn h0 h1 hc
  have HEN := fun w => equal_any none none [] [] 0 0 0 0 w rfl rfl (Or.inl rfl) (Or.inl rfl) (fun z hz => by cases hz) (fun z hz => by cases hz) (by omega)
  have HE0 := Lib.hid HEN
  clear HEN
  go_enter Try.func10, Try.ntmps10
  go_wp2_with fail
  refine (first3_any W).mono ?_
  rintro e w1 ⟨rfl, hb1⟩
  have HB1 := Lib.hid hb1
  clear hb1
  by_cases hbig : (1000 : Int) < (n : Int)
  · go_wp2_with fail
    refine (first3_any w1).mono ?_
    rintro e w2 ⟨rfl, hb2⟩
    have HB2 : Hid (Below W.heap.size W w2) := Lib.hid (below_step HB1.out hb2)
    clear hb2
    go_wp2_with fail
    refine (HE0.out w2).mono ?_
    rintro e w3 ⟨rfl, hb3⟩
    rw [eqB_self]
    have HB3 : Hid (Below W.heap.size W w3) := Lib.hid (below_step HB2.out hb3)
    clear hb3
    go_wp2
    go_ret
    exact ⟨rfl, HB3.out⟩
  by_cases hz0 : (n : Int) = 0
  · go_wp2_with fail
    refine (first3_any w1).mono ?_
    rintro e w2 ⟨rfl, hb2⟩
    have HB2 : Hid (Below W.heap.size W w2) := Lib.hid (below_step HB1.out hb2)
    clear hb2
    go_wp2_with fail
    refine (HE0.out w2).mono ?_
    rintro e w3 ⟨rfl, hb3⟩
    rw [eqB_self]
    have HB3 : Hid (Below W.heap.size W w3) := Lib.hid (below_step HB2.out hb3)
    clear hb3
    go_wp2
    go_ret
    exact ⟨rfl, HB3.out⟩
  have hnb : ((n : Int) == 0) = false := by simpa using hz0
  by_cases ha0 : a < 0
  · go_wp2_with fail
    refine (first3_any w1).mono ?_
    rintro e w2 ⟨rfl, hb2⟩
    have HB2 : Hid (Below W.heap.size W w2) := Lib.hid (below_step HB1.out hb2)
    clear hb2
    go_wp2_with fail
    refine (HE0.out w2).mono ?_
    rintro e w3 ⟨rfl, hb3⟩
    rw [eqB_self]
    have HB3 : Hid (Below W.heap.size W w3) := Lib.hid (below_step HB2.out hb3)
    clear hb3
    go_wp2
    go_ret
    exact ⟨rfl, HB3.out⟩
  have hn0 : 0 < n := by omega
  have HNB : Hid (n ≤ 1000) := Lib.hid (by omega)
  obtain ⟨b, off, rfl⟩ : ∃ b off, ao = some ⟨b, off, none⟩ := by
    rcases HZ.out with h | ⟨b, off, h, _⟩
    · have := HN.out; rw [h] at this; simp at this; omega
    · exact ⟨b, off, h⟩
  obtain ⟨A, rfl⟩ := Int.eq_ofNat_of_zero_le (Int.not_lt.1 ha0)
  go_upto_region 5 with fail
  go_wp2_with fail
  refine (copyBytes (some ⟨b, off, none⟩) zs n cap w1 HN.out (ints_below HZ.out HB1.out) (by have := HNB.out; omega)).mono ?_
  rintro e w2 ⟨cao, ccap, rfl, ho2, hb2, hf2⟩
  rw [HN.out] at ho2 hf2 ⊢
  have HO2 := Lib.hid ho2
  have HF2 := Lib.hid hf2
  have HB2 : Hid (Below W.heap.size W w2) := Lib.hid (below_step HB1.out hb2)
  clear ho2 hb2 hf2
  have hk : A % n < n := Nat.mod_lt _ hn0
  obtain ⟨g, rfl, c2, f2, hset⟩ := own_cell HO2.out (A % n) hk
  have HSET := Lib.hid (hset (bits .xor .u8 (zs.getD (A % n) 0) t))
  have HEQ := Lib.hid (eqB_set HB.out (A % n) (by rw [HN.out]; exact hk) t HT0.out HT1.out)
  clear hset
  generalize zs.getD (A % n) 0 = z at *
  obtain ⟨w3, hw3⟩ : ∃ w3, w3 = w2.setCell ⟨g, A % n, none⟩ (.int .u8 (bits .xor .u8 z t)) := ⟨_, rfl⟩
  have HO3 : Hid (w3.ownsRow 0 5 1 (.slice (some ⟨g, 0, none⟩) n ccap) n ((zs.set (A % n) (bits .xor .u8 z t)).map (Value.int .u8))) := Lib.hid (by rw [hw3]; exact HSET.out)
  have HB3 : Hid (Below W.heap.size W w3) := Lib.hid (below_fp HB2.out (by rw [hw3]; exact (Keeps.refl (fun i => i = g) w2).setCell (p := ⟨g, A % n, none⟩) (Or.inl rfl) _) (fun i hi => by have := HF2.out g rfl; have := HB1.out.size; omega))
  have HW3 := Lib.hid hw3
  clear hw3
  have HXB : Hid (InB (zs.set (A % n) (bits .xor .u8 z t))) := Lib.hid (fun x hx => by
    rcases List.mem_or_eq_of_mem_set hx with h | h
    · exact HB.out x h
    · rw [h]; have := xor_in8 z t; omega)
  generalize zs.set (A % n) (bits .xor .u8 z t) = ys at *
  go_wp2_with fail
  rw [← HW3.out]
  refine (first3_any w3).mono ?_
  rintro e w4 ⟨rfl, hb4⟩
  have HB4 : Hid (Below W.heap.size W w4) := Lib.hid (below_step HB3.out hb4)
  have HI4 := Lib.hid (ints_below (owns_at HO3.out).2.1 hb4)
  have HYN := Lib.hid (owns_at HO3.out).1
  clear hb4 c2 f2 HW3
  have HQ := Lib.hid (equal_any (some ⟨b, off, none⟩) (some ⟨g, 0, none⟩) zs ys n n cap ccap w4 HN.out HYN.out (ints_below HZ.out HB4.out) HI4.out HB.out HXB.out (by have := HNB.out; omega))
  rw [HEQ.out] at HQ
  go_wp2_with fail
  refine HQ.out.mono ?_
  rintro e w5 ⟨rfl, hb5⟩
  have HB5 : Hid (Below W.heap.size W w5) := Lib.hid (below_step HB4.out hb5)
  clear hb5
  have hcn : n ≤ cap := HCP.out
  have h1n : (1 : Int) ≤ (n : Int) := by omega
  have h1m : 1 ≤ n := hn0
  by_cases hc1 : cap = 1
  · obtain rfl : n = 1 := by omega
    subst hc1
    have HD5 : Hid (IntsAt .u8 w5 (some ⟨b, off, none⟩) (zs.drop 1)) := Lib.hid (Or.inl (List.eq_nil_of_length_eq_zero (by rw [List.length_drop, HN.out])))
    have HDN : Hid ((zs.drop 1).length = 0) := Lib.hid (by rw [List.length_drop, HN.out])
    have HEF : Hid (eqB zs (zs.drop 1) = false) := Lib.hid (eqB_len (by have h1 := HDN.out; have h2 := HN.out; omega))
    have HQ2 := Lib.hid (equal_any (some ⟨b, off, none⟩) (some ⟨b, off, none⟩) zs (zs.drop 1) 1 0 1 0 w5 HN.out HDN.out (ints_below HZ.out HB5.out) HD5.out HB.out (inB_drop HB.out _) (by have := HNB.out; omega))
    rw [HEF.out] at HQ2
    go_wp2_with fail
    refine HQ2.out.mono ?_
    rintro e w6 ⟨rfl, hb6⟩
    have HB6 : Hid (Below W.heap.size W w6) := Lib.hid (below_step HB5.out hb6)
    clear hb6
    have HTN : Hid ((zs.take 0).length = 0) := Lib.hid (by rw [List.take_zero]; rfl)
    have HEF2 : Hid (eqB (zs.take 0) zs = false) := Lib.hid (eqB_len (by have h1 := HTN.out; have h2 := HN.out; omega))
    have HQ3 := Lib.hid (equal_any (some ⟨b, off, none⟩) (some ⟨b, off, none⟩) (zs.take 0) zs 0 1 1 1 w6 HTN.out HN.out ((ints_below HZ.out HB6.out).take _) (ints_below HZ.out HB6.out) (inB_take HB.out _) HB.out (by have := HNB.out; omega))
    rw [HEF2.out] at HQ3
    go_wp2_with fail
    refine HQ3.out.mono ?_
    rintro e w7 ⟨rfl, hb7⟩
    have HB7 : Hid (Below W.heap.size W w7) := Lib.hid (below_step HB6.out hb7)
    clear hb7
    go_wp2_with fail
    refine (copyBytes (some ⟨b, off, none⟩) zs 1 1 w7 HN.out (ints_below HZ.out HB7.out) (by have := HNB.out; omega)).mono ?_
    rintro e w8 ⟨eao, ecap, rfl, ho8, hb8, hf8⟩
    rw [HN.out] at ho8 hf8 ⊢
    have HB8 : Hid (Below W.heap.size W w8) := Lib.hid (below_step HB7.out hb8)
    have HQ4 := Lib.hid (equal_any (some ⟨b, off, none⟩) eao zs zs 1 1 1 ecap w8 HN.out HN.out (ints_below HZ.out HB8.out) (owns_at ho8).2.1 HB.out HB.out (by have := HNB.out; omega))
    rw [eqB_self] at HQ4
    clear ho8 hb8 hf8
    go_wp2_with fail
    refine HQ4.out.mono ?_
    rintro e w9 ⟨rfl, hb9⟩
    have HB9 : Hid (Below W.heap.size W w9) := Lib.hid (below_step HB8.out hb9)
    clear hb9
    go_wp2
    go_ret
    exact ⟨rfl, HB9.out⟩
  · have hcz : cap - 1 ≠ 0 := by omega
    have HD5 : Hid (IntsAt .u8 w5 (some ⟨b, off + 1, none⟩) (zs.drop 1)) := Lib.hid ((ints_below HZ.out HB5.out).drop 1)
    have HDN : Hid ((zs.drop 1).length = n - 1) := Lib.hid (by rw [List.length_drop, HN.out])
    have HEF : Hid (eqB zs (zs.drop 1) = false) := Lib.hid (eqB_len (by have h1 := HDN.out; have h2 := HN.out; omega))
    have HQ2 := Lib.hid (equal_any (some ⟨b, off, none⟩) (some ⟨b, off + 1, none⟩) zs (zs.drop 1) n (n - 1) cap (cap - 1) w5 HN.out HDN.out (ints_below HZ.out HB5.out) HD5.out HB.out (inB_drop HB.out _) (by have := HNB.out; omega))
    rw [HEF.out] at HQ2
    go_wp2_with fail
    refine HQ2.out.mono ?_
    rintro e w6 ⟨rfl, hb6⟩
    have HB6 : Hid (Below W.heap.size W w6) := Lib.hid (below_step HB5.out hb6)
    clear hb6
    have HTN : Hid ((zs.take (n - 1)).length = n - 1) := Lib.hid (by rw [List.length_take, HN.out]; omega)
    have HEF2 : Hid (eqB (zs.take (n - 1)) zs = false) := Lib.hid (eqB_len (by have h1 := HTN.out; have h2 := HN.out; omega))
    have HQ3 := Lib.hid (equal_any (some ⟨b, off, none⟩) (some ⟨b, off, none⟩) (zs.take (n - 1)) zs (n - 1) n cap cap w6 HTN.out HN.out ((ints_below HZ.out HB6.out).take _) (ints_below HZ.out HB6.out) (inB_take HB.out _) HB.out (by have := HNB.out; omega))
    rw [HEF2.out] at HQ3
    have hl1 : (n : Int) - 1 ≤ (cap : Int) := by omega
    have hl2 : (0 : Int) ≤ (n : Int) - 1 := by omega
    have hl3 : ((n : Int) - 1).toNat = n - 1 := by omega
    have hl4 : wrap64 ((n : Int) - 1) = (n : Int) - 1 := by have := HNB.out; unfold wrap64; omega
    have hl5 : n - 1 ≤ cap := by omega
    go_wp2_with fail
    refine HQ3.out.mono ?_
    rintro e w7 ⟨rfl, hb7⟩
    have HB7 : Hid (Below W.heap.size W w7) := Lib.hid (below_step HB6.out hb7)
    clear hb7
    go_wp2_with fail
    refine (copyBytes (some ⟨b, off, none⟩) zs n cap w7 HN.out (ints_below HZ.out HB7.out) (by have := HNB.out; omega)).mono ?_
    rintro e w8 ⟨eao, ecap, rfl, ho8, hb8, hf8⟩
    rw [HN.out] at ho8 hf8 ⊢
    have HB8 : Hid (Below W.heap.size W w8) := Lib.hid (below_step HB7.out hb8)
    have HQ4 := Lib.hid (equal_any (some ⟨b, off, none⟩) eao zs zs n n cap ecap w8 HN.out HN.out (ints_below HZ.out HB8.out) (owns_at ho8).2.1 HB.out HB.out (by have := HNB.out; omega))
    rw [eqB_self] at HQ4
    clear ho8 hb8 hf8
    go_wp2_with fail
    refine HQ4.out.mono ?_
    rintro e w9 ⟨rfl, hb9⟩
    have HB9 : Hid (Below W.heap.size W w9) := Lib.hid (below_step HB8.out hb9)
    clear hb9
    go_wp2
    go_ret
    exact ⟨rfl, HB9.out⟩

theorem walk_macEqual (W : World) (ao : Option Addr) (zs : List Int) (cap : Nat) (hz : IntsAt .u8 W ao zs) (hc : zs.length ≤ cap) (wf : cap ≤ maxLen ∧ ∀ n ∈ zs, (Lit.int .u8 n).wf = true) (a : Int) (wa : (Lit.int .i64 a).wf = true) (t : Int) (wt : (Lit.int .u8 t).wf = true) :
    Calls Try.prog 10 #[.slice ao zs.length cap, .int .i64 a, .int .u8 t] W fun e w' => e = .returned (.bool true) ∧ Below W.heap.size W w' :=
  mequal_core W ao zs zs.length cap rfl hz (inB_of_wf wf.2) hc a t (bounds_u8 wt).1 (by have := (bounds_u8 wt).2; omega)

end Go.Proofs.Ythncpbihnhpacaa
