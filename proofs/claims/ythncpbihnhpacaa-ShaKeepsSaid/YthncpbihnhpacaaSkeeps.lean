/- ShaKeeps is true for every input, and its arguments read behind the call as before; no condition: the walk. -/
import Derived.Test.YthncpbihnhpacaaShaS
namespace Go.Proofs.Ythncpbihnhpacaa
open Go.RowKit
set_option linter.unusedVariables false
set_option linter.unusedSimpArgs false

/-- A row of n bytes at the head of a block. -/
def RowB (w : World) (g n : Nat) (f : Nat → Int) : Prop := ∃ cs, w.heap[g]? = some (.cells cs 5 (0, 0)) ∧ ∀ j, j < n → cs[j]? = some (.int .u8 (f j))
theorem RowB.lt {w : World} {g n : Nat} {f : Nat → Int} (h : RowB w g n f) : g < w.heap.size := by obtain ⟨_, h, _⟩ := h; exact blk_lt h
theorem RowB.same {w w' : World} {g n : Nat} {f : Nat → Int} (h : RowB w g n f) (he : w'.heap[g]? = w.heap[g]?) : RowB w' g n f := by obtain ⟨cs, h1, h2⟩ := h; exact ⟨cs, he.trans h1, h2⟩
theorem RowB.cell {w : World} {g n : Nat} {f : Nat → Int} (h : RowB w g n f) (j : Nat) (hj : j < n) : w.cell? ⟨g, j, none⟩ = some (.int .u8 (f j)) ∧ w.frozen? ⟨g, j, none⟩ = false := by
  obtain ⟨cs, h1, h2⟩ := h
  exact ⟨(blk_cell h1 j).trans (h2 j hj), blk_frozen h1 j⟩
theorem RowB.set {w : World} {g n : Nat} {f : Nat → Int} (h : RowB w g n f) (i : Nat) (hi : i < n) (v : Int) : RowB (w.setCell ⟨g, i, none⟩ (.int .u8 v)) g n (fun j => if j = i then v else f j) := by
  obtain ⟨cs, h1, h2⟩ := h
  refine ⟨_, blk_set h1 i _, fun j hj => ?_⟩
  have hs := (Array.getElem?_eq_some_iff.1 (h2 i hi)).1
  by_cases e : j = i
  · subst e
    rw [Array.getElem?_setIfInBounds_self, if_pos hs]; simp
  · show _ = some (Value.int .u8 (if j = i then v else f j))
    rw [Array.getElem?_setIfInBounds_ne (by omega), if_neg e]; exact h2 j hj
theorem RowB.to {w : World} {g n : Nat} {f f' : Nat → Int} (h : RowB w g n f) (hf : ∀ j, j < n → f j = f' j) : RowB w g n f' := by
  obtain ⟨cs, h1, h2⟩ := h
  exact ⟨cs, h1, fun j hj => by rw [← hf j hj]; exact h2 j hj⟩
theorem RowB.of {w : World} {ao : Option Addr} {n cap : Nat} {zs : List Int} (h : w.ownsRow 0 5 1 (.slice ao n cap) n (zs.map (Value.int .u8))) (h0 : 0 < n) : ∃ g, ao = some ⟨g, 0, none⟩ ∧ RowB w g n (fun j => zs.getD j 0) := by
  have hl : zs.length = n := (owns_at h).1
  rcases h.2 with ⟨_, hn⟩ | ⟨g, cap', cur, hv, _, hh, hn, hm, hs, ht⟩
  · omega
  · simp only [Value.slice.injEq] at hv
    refine ⟨g, hv.1, cur, hh, fun j hj => ?_⟩
    have hc := h.cells (g := g) (by rw [hv.1]; rfl) j (.int .u8 (zs.getD j 0)) (by simp [List.getD, hl, hj])
    rw [addr_add, Nat.zero_add, blk_cell hh j] at hc
    exact hc

set_option maxRecDepth 100000 in
set_option maxHeartbeats 4000000 in
theorem keeps_core (W : World) (ao : Option Addr) (zs : List Int) (n cap : Nat) (hn : zs.length = n) (hz : IntsAt .u8 W ao zs) (hB : InB zs) (hcap : n ≤ cap) :
    Calls Try.prog 7 #[.slice ao n cap] W fun e w' => e = .returned (.bool true) ∧ Below W.heap.size W w' := by
  have HN := Lib.hid hn
  have HZ := Lib.hid hz
  have HB := Lib.hid hB
  clear hz hB hn
  by_cases hbig : (500 : Int) < (n : Int)
  · go_enter Try.func7, Try.ntmps7
    go_wp2_with fail
    refine (first2_any W).mono ?_
    rintro e w1 ⟨rfl, hb1⟩
    have HB1 := Lib.hid hb1
    clear hb1
    go_wp2_with fail
    refine (newTable_any w1).mono ?_
    rintro e w2 ⟨rfl, ht2, hb2⟩
    have HB2 : Hid (Below W.heap.size W w2) := Lib.hid (below_step HB1.out hb2)
    clear hb2 ht2
    go_wp2_with fail
    refine (first2_any w2).mono ?_
    rintro e w3 ⟨rfl, hb3⟩
    have HB3 : Hid (Below W.heap.size W w3) := Lib.hid (below_step HB2.out hb3)
    clear hb3
    go_wp2
    go_ret
    exact ⟨rfl, HB3.out⟩
  · have HL := Lib.hid hbig
    go_enter Try.func7, Try.ntmps7
    go_wp2_with fail
    refine (first2_any W).mono ?_
    rintro e w1 ⟨rfl, hb1⟩
    have HB1 := Lib.hid hb1
    clear hb1
    go_wp2_with fail
    refine (newTable_any w1).mono ?_
    rintro e w2 ⟨rfl, ht2, hb2⟩
    have HT2 := Lib.hid ht2
    have HB2 : Hid (Below W.heap.size W w2) := Lib.hid (below_step HB1.out hb2)
    have HLT := Lib.hid HB1.out.size
    generalize w1.heap.size = tb at *
    clear hb2 ht2 HB1
    go_wp2_with fail
    refine (new_any tb w2 HT2.out).mono ?_
    rintro e w4 ⟨rfl, ht4, hh4, hk4⟩
    have HT4 := Lib.hid ht4
    have HH4 := Lib.hid hh4
    have HB4 : Hid (Below W.heap.size W w4) := Lib.hid (below_keeps HB2.out hk4 HLT.out)
    have HPW : Hid (W.heap.size ≤ w2.heap.size ∧ tb < w2.heap.size) := Lib.hid ⟨HB2.out.size, HT2.out.lt⟩
    clear ht4 hh4 hk4 HB2 HT2
    generalize w2.heap.size = p at *
    go_wp2_with fail
    refine (copyBytes ao zs n cap w4 HN.out (ints_below HZ.out HB4.out) (by have := HL.out; omega)).mono ?_
    rintro e w5 ⟨cao, ccap, rfl, ho5, hb5, hf5⟩
    rw [HN.out] at ho5 hf5 ⊢
    have HO5 := Lib.hid ho5
    have HF5 := Lib.hid hf5
    have HT5 := Lib.hid (HT4.out.below hb5)
    have HH5 : Hid (HashAt w5 p tb [] (.slice none 0 0)) := Lib.hid (HH4.out.keep (S := fun _ => False) (Keeps.of_below hb5) (fun h => h) (fun _ _ h => h))
    have HB5 : Hid (Below W.heap.size W w5) := Lib.hid (below_step HB4.out hb5)
    have HPL : Hid (p < w4.heap.size ∧ tb < w4.heap.size ∧ W.heap.size ≤ w4.heap.size ∧ w4.heap.size ≤ w5.heap.size) := Lib.hid ⟨HH4.out.lt.1, HT4.out.lt, HB4.out.size, hb5.size⟩
    clear ho5 hb5 hf5 HB4 HT4 HH4
    have HWR := Lib.hid (write_any p tb _ [] w5 HT5.out HH5.out cao zs n ccap HN.out (owns_at HO5.out).2.1 HB.out (by
      by_cases h0 : zs = []
      · exact Or.inl h0
      · refine Or.inr (fun a ha e => ?_)
        have h1 := HF5.out a.block (by rw [ha]; rfl)
        have := HPL.out; omega) (by have := HL.out; simp; omega))
    go_wp2_with fail
    refine HWR.out.mono ?_
    rintro e w6 ⟨rfl, v, ht6, hh6, hk6, hf6⟩
    rw [List.nil_append] at hh6
    have HT6 := Lib.hid ht6
    have HH6 := Lib.hid hh6
    have HK6 : Hid (Keeps (fun i => i = tb ∨ i = p) w5 w6) := Lib.hid (hk6.mono (fun i _ h => by
      rcases h with h | h | h
      · exact Or.inl h
      · exact Or.inr h
      · cases h))
    have HF6 := Lib.hid hf6
    have HB6 : Hid (Below W.heap.size W w6) := Lib.hid (((Keeps.of_below (S := fun _ => False) HB5.out).trans HK6.out (fun i h => Or.inr (by have := HPW.out; have := HLT.out; omega))).below (Nat.le_refl _) (fun _ h => h.elim))
    have HO6 : Hid (0 < n → ∃ g, cao = some ⟨g, 0, none⟩ ∧ RowB w6 g n (fun j => zs.getD j 0) ∧ w4.heap.size ≤ g ∧ v.ownBlock ≠ some g) := Lib.hid (fun h0 => by
      obtain ⟨g, rfl, hr⟩ := RowB.of HO5.out h0
      have h1 := HF5.out g rfl
      refine ⟨g, rfl, hr.same (HK6.out.block g hr.lt (by have := HPL.out; omega)), h1, fun e => ?_⟩
      have := HF6.out g e
      have := hr.lt
      omega)
    clear ht6 hh6 hk6 hf6
    go_wp2_with fail
    go_loopw [6] (fun i wr => ∃ k : Nat, k ≤ n ∧ i = .int .i64 k ∧ TabOk wr tb ∧ HashAt wr p tb zs v ∧ Below W.heap.size W wr ∧ (0 < n → ∃ g, cao = some ⟨g, 0, none⟩ ∧ RowB wr g n (fun j => if j < k then bits .xor .u8 (zs.getD j 0) 255 else zs.getD j 0) ∧ w4.heap.size ≤ g ∧ v.ownBlock ≠ some g)) (fun i _ => n - (intOf i).toNat)
    case atStart => exact ⟨0, Nat.zero_le _, rfl, HT6.out, HH6.out, HB6.out, fun h0 => by
      obtain ⟨g, h1, h2, h3⟩ := HO6.out h0
      exact ⟨g, h1, h2.to (fun j _ => by simp), h3⟩⟩
    case round =>
      obtain ⟨k, hk, rfl, ht, hh, hb, ho⟩ := hrel
      have HT := Lib.hid ht
      have HH := Lib.hid hh
      have HBR := Lib.hid hb
      have HO := Lib.hid ho
      clear ht hh hb ho
      by_cases hlt : k < n
      · obtain ⟨g, hg, hrow, hg4, hvg⟩ := HO.out (by omega)
        subst hg
        have HROW := Lib.hid hrow
        have HG4 := Lib.hid hg4
        have HVG := Lib.hid hvg
        obtain ⟨cc, cf⟩ := hrow.cell k hlt
        rw [if_neg (by omega)] at cc
        obtain ⟨b, off, rfl, hcb⟩ : ∃ b off, ao = some ⟨b, off, none⟩ ∧ ∀ i, i < n → W.cell? ⟨b, off + i, none⟩ = some (.int .u8 (zs.getD i 0)) := by
          rcases HZ.out with h | ⟨b, off, h1, h2⟩
          · have := HN.out; rw [h] at this; simp at this; omega
          · exact ⟨b, off, h1, fun i hi => h2 i (by have := HN.out; omega)⟩
        have cb : wr.cell? ⟨b, off + k, none⟩ = some (.int .u8 (zs.getD k 0)) := by
          have h1 := hcb k hlt
          have h2 : b < W.heap.size := World.block_lt_of_cell? W _ h1
          exact (HBR.out.cell (p := ⟨b, off + k, none⟩) h2).trans h1
        clear hrow hg4 hvg hcb
        have b0 : (0 : Int) ≤ (k : Int) := by omega
        have b1 : (k : Int) < (n : Int) := by omega
        generalize hzk : zs.getD k 0 = z at *
        have HZK := Lib.hid hzk
        clear hzk
        go_wp2_with fail
        go_quiet (fail)
        have HKS : Hid (Keeps (fun i => i = g) wr ((wr.drewN nq).setCell ⟨g, k, none⟩ (.int .u8 (bits .xor .u8 z 255)))) := Lib.hid (((Keeps.refl (fun i => i = g) wr).drewN nq).setCell (p := ⟨g, k, none⟩) (Or.inl rfl) _)
        have HRN : Hid (RowB ((wr.drewN nq).setCell ⟨g, k, none⟩ (.int .u8 (bits .xor .u8 z 255))) g n (fun j => if j < k + 1 then bits .xor .u8 (zs.getD j 0) 255 else zs.getD j 0)) := Lib.hid (((HROW.out.same (w' := wr.drewN nq) rfl).set k hlt _).to (fun j hj => by
          by_cases e : j = k
          · subst e
            rw [if_pos rfl, if_pos (by omega), HZK.out]
          · rw [if_neg e]
            by_cases e2 : j < k
            · rw [if_pos e2, if_pos (by omega)]
            · rw [if_neg e2, if_neg (by omega)]))
        go_wp2_with fail
        refine ⟨⟨k + 1, by omega, by go_num, HT.out.same (HKS.out.block tb HT.out.lt (by have := HPL.out; have := HG4.out; omega)), HH.out.keep HKS.out (by have := HPL.out; have := HG4.out; omega) (fun g' hg' e => HVG.out (by rw [hg', e])), (((Keeps.of_below (S := fun _ => False) HBR.out).trans HKS.out (fun i h => Or.inr (by have := HG4.out; have := HPL.out; omega))).below (Nat.le_refl _) (fun _ h => h.elim)), fun _ => ⟨g, rfl, HRN.out, HG4.out, HVG.out⟩⟩, ?_⟩
        simp [intOf]; omega
      · obtain rfl : k = n := by omega
        have HSM := Lib.hid (shaSum_any p tb v zs wr HT.out HH.out (by have := HL.out; have := HN.out; omega))
        have HSL := Lib.hid (shaF_len zs)
        go_wp2_with fail
        refine HSM.out.mono ?_
        rintro e w7 ⟨g1, c1, rfl, ht7, ho7, hl7, hk7, hg7⟩
        have HT7 := Lib.hid ht7
        have HGL : Hid (wr.heap.size ≤ g1 ∧ g1 < w7.heap.size) := Lib.hid ⟨hg7, (ho7.lt g1 rfl).2⟩
        have HH7 : Hid (HashAt w7 p tb zs v) := Lib.hid (HH.out.keep hk7 HH.out.2.2.2.2.1 (fun g' hg' e => HH.out.2.2.2.1 (by rw [hg', e])))
        have HR7 : Hid (RowB w7 g1 32 (fun j => (shaF zs).getD j 0)) := Lib.hid (by
          obtain ⟨g', hg', hr⟩ := RowB.of ho7 (by omega)
          cases hg'
          exact hr)
        have HI7 := Lib.hid (owns_at ho7).2.1
        have HB7 : Hid (Below W.heap.size W w7) := Lib.hid (below_keeps HBR.out hk7 HLT.out)
        clear ht7 ho7 hl7 hk7 hg7
        have HRH := Lib.hid (rhash_any ao zs k cap w7 HN.out (ints_below HZ.out HB7.out) HB.out (by have := HL.out; omega))
        go_wp2_with fail
        refine HRH.out.mono ?_
        rintro e w8 ⟨ao8, c8, rfl, ho8, hb8, hf8⟩
        have HE := Lib.hid (bytes_eq (some ⟨g1, 0, none⟩) ao8 (shaF zs) (shaF zs) 32 (shaF zs).length c1 c8 w8 HSL.out rfl (ints_below HI7.out hb8) (owns_at ho8).2.1 (shaF_inB _) (shaF_inB _))
        have HT8 := Lib.hid (HT7.out.below hb8)
        have HH8 : Hid (HashAt w8 p tb zs v) := Lib.hid (HH7.out.keep (S := fun _ => False) (Keeps.of_below hb8) (fun h => h) (fun _ _ h => h))
        have HR8 := Lib.hid (HR7.out.same (hb8.block g1 HGL.out.2))
        have HB8 : Hid (Below W.heap.size W w8) := Lib.hid (below_step HB7.out hb8)
        clear ho8 hb8 hf8
        go_wp2_with fail
        refine HE.out.mono ?_
        rintro e w9 ⟨rfl, rfl⟩
        rw [eqB_self]
        obtain ⟨x0, xf⟩ := HR8.out.cell 0 (by omega)
        generalize (shaF zs).getD 0 0 = x at *
        obtain ⟨w9, hw9⟩ : ∃ w9, w9 = w8.setCell ⟨g1, 0, none⟩ (.int .u8 (bits .xor .u8 x 1)) := ⟨_, rfl⟩
        have HK9 : Hid (Keeps (fun i => i = g1) w8 w9) := Lib.hid (by rw [hw9]; exact (Keeps.refl (fun i => i = g1) w8).setCell (p := ⟨g1, 0, none⟩) (Or.inl rfl) _)
        have hgg : tb < wr.heap.size ∧ p < wr.heap.size ∧ W.heap.size ≤ wr.heap.size := ⟨HT.out.lt, HH.out.lt.1, HBR.out.size⟩
        have HT9 := Lib.hid (HT8.out.same (HK9.out.block tb HT8.out.lt (by have := HGL.out; omega)))
        have HH9 : Hid (HashAt w9 p tb zs v) := Lib.hid (HH8.out.keep HK9.out (by have := HGL.out; omega) (fun g' hg' e => by have := HH.out.lt.2 g' hg'; have := HGL.out; omega))
        have HB9 : Hid (Below W.heap.size W w9) := Lib.hid (((Keeps.of_below (S := fun _ => False) HB8.out).trans HK9.out (fun i h => Or.inr (by have := HGL.out; omega))).below (Nat.le_refl _) (fun _ h => h.elim))
        have HW9 := Lib.hid hw9
        clear hw9 hgg
        go_wp2_with fail
        rw [← HW9.out]
        refine (first2_any w9).mono ?_
        rintro e w10 ⟨rfl, hb10⟩
        have HT10 := Lib.hid (HT9.out.below hb10)
        have HH10 : Hid (HashAt w10 p tb zs v) := Lib.hid (HH9.out.keep (S := fun _ => False) (Keeps.of_below hb10) (fun h => h) (fun _ _ h => h))
        have HB10 : Hid (Below W.heap.size W w10) := Lib.hid (below_step HB9.out hb10)
        clear hb10 x0 xf
        have HSM2 := Lib.hid (shaSum_any p tb v zs w10 HT10.out HH10.out (by have := HL.out; have := HN.out; omega))
        go_wp2_with fail
        refine HSM2.out.mono ?_
        rintro e w11 ⟨g2, c2, rfl, ht11, ho11, hl11, hk11, hg11⟩
        have HI11 := Lib.hid (owns_at ho11).2.1
        have HB11 : Hid (Below W.heap.size W w11) := Lib.hid (below_keeps HB10.out hk11 HLT.out)
        clear ht11 ho11 hl11 hk11 hg11
        have HRH2 := Lib.hid (rhash_any ao zs k cap w11 HN.out (ints_below HZ.out HB11.out) HB.out (by have := HL.out; omega))
        go_wp2_with fail
        refine HRH2.out.mono ?_
        rintro e w12 ⟨ao12, c12, rfl, ho12, hb12, hf12⟩
        have HE2 := Lib.hid (bytes_eq (some ⟨g2, 0, none⟩) ao12 (shaF zs) (shaF zs) 32 (shaF zs).length c2 c12 w12 HSL.out rfl (ints_below HI11.out hb12) (owns_at ho12).2.1 (shaF_inB _) (shaF_inB _))
        have HB12 : Hid (Below W.heap.size W w12) := Lib.hid (below_step HB11.out hb12)
        clear ho12 hb12 hf12
        go_wp2_with fail
        refine HE2.out.mono ?_
        rintro e w13 ⟨rfl, rfl⟩
        rw [eqB_self]
        go_wp2
        go_ret
        exact ⟨rfl, HB12.out⟩

theorem walk_shaKeeps (W : World) (ao : Option Addr) (zs : List Int) (cap : Nat) (hz : IntsAt .u8 W ao zs) (hc : zs.length ≤ cap) (wf : cap ≤ maxLen ∧ ∀ n ∈ zs, (Lit.int .u8 n).wf = true) :
    Calls Try.prog 7 #[.slice ao zs.length cap] W fun e w' => e = .returned (.bool true) ∧ Below W.heap.size W w' :=
  keeps_core W ao zs zs.length cap rfl hz (inB_of_wf wf.2) hc

end Go.Proofs.Ythncpbihnhpacaa
