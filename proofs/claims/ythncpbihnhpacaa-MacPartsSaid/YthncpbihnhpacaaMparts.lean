/- MacParts is true for every input, and its arguments read behind the call as before; no condition: the walk. -/
import Derived.Test.YthncpbihnhpacaaMac4
import Derived.Test.YthncpbihnhpacaaCatb
import Derived.Test.YthncpbihnhpacaaAppg
namespace Go.Proofs.Ythncpbihnhpacaa
open Go.RowKit
set_option linter.unusedVariables false
set_option linter.unusedSimpArgs false

theorem macF_hash {key : List Int} (h : 64 < key.length) (b : List Int) : macF (shaF key) b = macF key b := by
  have e : macK (shaF key) = macK key := by
    unfold macK
    rw [if_neg (by rw [shaF_len]; omega), if_pos h]
  unfold macF
  rw [e]
theorem padB_zero (key : List Int) (c : Int) : padB (key ++ [0]) c = padB key c := by
  unfold padB
  refine List.map_congr_left (fun j hj => ?_)
  congr 1
  rw [List.getD_eq_getElem?_getD, List.getD_eq_getElem?_getD, List.getElem?_append]
  split
  · rfl
  · rename_i h
    rw [List.getElem?_eq_none (Nat.not_lt.1 h)]
    cases hq : j - key.length with
    | zero => rfl
    | succ k => rfl
theorem macF_zero {key : List Int} (h : key.length < 64) (b : List Int) : macF (key ++ [0]) b = macF key b := by
  have e1 : macK key = key := by unfold macK; rw [if_neg (by omega)]
  have e2 : macK (key ++ [0]) = key ++ [0] := by unfold macK; rw [if_neg (by simp; omega)]
  unfold macF
  rw [e1, e2, padB_zero, padB_zero]

set_option maxRecDepth 100000 in
set_option maxHeartbeats 4000000 in
theorem mparts_core (W : World) (ko : Option Addr) (zs : List Int) (kn kcap : Nat) (hkn : zs.length = kn) (hz : IntsAt .u8 W ko zs) (hB : InB zs) (ao : Option Addr) (bs : List BSl) (n cap : Nat) (hn : bs.length = n) (h : BytesList W ao bs) (hcap : n ≤ cap) (hcm : cap ≤ maxLen) :
    Calls Try.prog 9 #[.slice ko kn kcap, .slice ao n cap] W fun e w' => e = .returned (.bool true) ∧ Below W.heap.size W w' := by
  have HKN := Lib.hid hkn
  have HZ := Lib.hid hz
  have HB := Lib.hid hB
  have HN := Lib.hid hn
  have HBL := Lib.hid h
  have HC := Lib.hid (And.intro hcap hcm)
  clear hn h hcap hcm hkn hz hB
  go_enter Try.func9, Try.ntmps9
  go_wp2_with fail
  refine (first3_any W).mono ?_
  rintro e w1 ⟨rfl, hb1⟩
  have HB1 := Lib.hid hb1
  clear hb1
  go_wp2_with fail
  refine (newTable_any w1).mono ?_
  rintro e w2 ⟨rfl, ht2, hb2⟩
  have HT2 := Lib.hid ht2
  have HB2 : Hid (Below W.heap.size W w2) := Lib.hid (below_step HB1.out hb2)
  have HLT := Lib.hid HB1.out.size
  generalize w1.heap.size = tb at *
  clear hb2 ht2 HB1
  by_cases hbig : (1000 : Int) < (kn : Int)
  · go_wp2_with fail
    refine (first3_any w2).mono ?_
    rintro e w3 ⟨rfl, hb3⟩
    have HB3 : Hid (Below W.heap.size W w3) := Lib.hid (below_step HB2.out hb3)
    clear hb3
    go_wp2
    go_ret
    exact ⟨rfl, HB3.out⟩
  have HKB := Lib.hid hbig
  have HFW := Lib.hid (few_any ao bs n cap 200 3000 w2 HN.out (HBL.out.below HB2.out) HC.out.1 HC.out.2 (by omega) (by omega))
  cases hfew : fewB (bs.map (fun b => b.zs.length)) 200 3000
  · rw [hfew] at HFW
    clear hfew
    go_wp2_with fail
    refine HFW.out.mono ?_
    rintro e w3 ⟨rfl, rfl⟩
    go_wp2_with fail
    refine (first3_any w2).mono ?_
    rintro e w3 ⟨rfl, hb3⟩
    have HB3 : Hid (Below W.heap.size W w3) := Lib.hid (below_step HB2.out hb3)
    clear hb3
    go_wp2
    go_ret
    exact ⟨rfl, HB3.out⟩
  · have HFF := Lib.hid (few_facts _ _ _ hfew)
    rw [hfew] at HFW
    clear hfew
    go_wp2_with fail
    refine HFW.out.mono ?_
    rintro e w3 ⟨rfl, rfl⟩
    have HNW := Lib.hid (macNew_any tb ko zs kn kcap w2 HT2.out HKN.out (ints_below HZ.out HB2.out) HB.out (HZ.out.far HLT.out) (by have := HKB.out; omega))
    go_wp2_with fail
    refine HNW.out.mono ?_
    rintro e w4 ⟨q, p, g, v0, rfl, hm4, hk4⟩
    have HM4 := Lib.hid hm4
    have HB4 : Hid (Below W.heap.size W w4) := Lib.hid (below_keeps HB2.out hk4 HLT.out)
    have HWL : Hid (W.heap.size ≤ w2.heap.size) := Lib.hid HB2.out.size
    have HTOT : Hid (∀ k, (catB (bs.take k)).length ≤ 3000) := Lib.hid (fun k => by
      rw [catB_len, List.map_take]
      exact Nat.le_trans (sum_take_le _ _) HFF.out.2)
    have HNL : Hid (n ≤ 200) := Lib.hid (by have := HFF.out.1; rw [List.length_map] at this; rw [← HN.out]; exact this)
    clear hm4 hk4 HB2 HFW HNW
    go_wp2_with fail
    go_loopw [7, 8] (fun u i wr => ∃ (k : Nat) (v : Value) (a2 : Option Addr) (c2 : Nat), k ≤ n ∧ i = .int .i64 k ∧ u = .slice a2 (catB (bs.take k)).length c2 ∧ MacAt w2 wr q p g tb zs (catB (bs.take k)) v ∧ Below W.heap.size W wr ∧ wr.ownsRow 0 5 1 (.slice a2 (catB (bs.take k)).length c2) (catB (bs.take k)).length ((catB (bs.take k)).map (Value.int .u8)) ∧ (∀ x, (Value.slice a2 (catB (bs.take k)).length c2).ownBlock = some x → v.ownBlock ≠ some x ∧ x ≠ q ∧ x ≠ p ∧ x ≠ g ∧ w2.heap.size ≤ x)) (fun _ i _ => n - (intOf i).toNat)
    case atStart => exact ⟨0, v0, none, 0, Nat.zero_le _, rfl, rfl, HM4.out, HB4.out, World.ownsRow_nil _ _ _ _, (fun g (hg : (Value.slice none 0 0).ownBlock = some g) => by cases hg)⟩
    case round =>
      obtain ⟨k, v, a2, c2, hk, rfl, rfl, hm, hb, ho, hf⟩ := hrel
      have HM := Lib.hid hm
      have HBR := Lib.hid hb
      have HO := Lib.hid ho
      have HF := Lib.hid hf
      have HLT3 := Lib.hid (HTOT.out k)
      clear hm hb ho hf
      by_cases hlt : k < n
      · have hkl : k < bs.length := by rw [HN.out]; exact hlt
        have HBW := Lib.hid (HBL.out.below HBR.out)
        obtain ⟨b, off, rfl, hcell⟩ : ∃ b off, ao = some ⟨b, off, none⟩ ∧ wr.cell? ⟨b, off + k, none⟩ = some bs[k].val := by
          rcases HBW.out.1 with h | ⟨b, off, h1, h2⟩
          · rw [h] at hkl; simp at hkl
          · exact ⟨b, off, h1, h2 k hkl⟩
        have HOK := Lib.hid (HBL.out.2 bs[k] (List.getElem_mem hkl))
        have HOKW := Lib.hid (HBW.out.2 bs[k] (List.getElem_mem hkl))
        have HCT := Lib.hid (catB_take bs k hkl)
        have HL4 := Lib.hid (HTOT.out (k + 1))
        obtain ⟨bk, hbk⟩ : ∃ bk, bk = bs[k] := ⟨_, rfl⟩
        rw [← hbk] at hcell HOK HOKW HCT
        clear hbk HBW
        obtain ⟨bao, bzs, bcap⟩ := bk
        unfold BSl.val at hcell
        dsimp only at hcell HCT
        have HBN : Hid (bzs = [] ∨ ∀ a, bao = some a → a.block < W.heap.size) := Lib.hid HOK.out.2.2.2.2
        have HWR := Lib.hid (mac_write HM.out bao bzs bzs.length bcap rfl HOKW.out.1 HOK.out.2.1 (HBN.out.imp id (fun h a ha e => by have := h a ha; have := HWL.out; have := HM.out.pl; omega)) (by have := HL4.out; rw [HCT.out, List.length_append] at this; omega))
        have HCL : Hid ((catB (bs.take (k + 1))).length = (catB (bs.take k)).length + bzs.length) := Lib.hid (by rw [HCT.out, List.length_append])
        have b0 : (0 : Int) ≤ (k : Int) := by omega
        have b1 : (k : Int) < (n : Int) := by omega
        go_wp2_with fail
        refine HWR.out.mono ?_
        rintro e w5 ⟨rfl, v5, hm5, hk5, hf5⟩
        rw [← HCT.out] at hm5
        have HM5 := Lib.hid hm5
        have HV5 := Lib.hid hf5
        have HB5 : Hid (Below W.heap.size W w5) := Lib.hid (below_fp HBR.out hk5 (fun i h => by
          have e1 := HWL.out
          rcases h with h | h | h
          · have := HLT.out; omega
          · have := HM.out.pl; omega
          · have := (HM.out.vl i h).1; omega))
        have HO5 : Hid (w5.ownsRow 0 5 1 (.slice a2 (catB (bs.take k)).length c2) (catB (bs.take k)).length ((catB (bs.take k)).map (Value.int .u8))) := Lib.hid (ownsRow_same HO.out (fun x hx => hk5.block x (HO.out.lt x hx).2 (by
          have h1 := HF.out x hx
          have h2 := HM.out.tl
          rintro (h | h | h)
          · omega
          · exact h1.2.2.1 h
          · exact h1.1 h)))
        have HOL : Hid (∀ x, (Value.slice a2 (catB (bs.take k)).length c2).ownBlock = some x → x < wr.heap.size) := Lib.hid (fun x hx => (HO.out.lt x hx).2)
        have HS5 := Lib.hid hk5.size
        have HI5 : Hid (IntsAt .u8 w5 bao bzs) := Lib.hid (ints_below HOK.out.1 HB5.out)
        have hcell5 : w5.cell? ⟨b, off + k, none⟩ = some (.slice bao bzs.length bcap) := by
          have hbl := HBL.out.1
          rcases hbl with h | ⟨b', off', h1, h2⟩
          · rw [h] at hkl; simp at hkl
          · cases h1
            have h3 := h2 k hkl
            have h4 : b < W.heap.size := World.block_lt_of_cell? W _ h3
            have h5 := (HBR.out.cell (p := ⟨b, off + k, none⟩) h4).symm.trans hcell
            exact (HB5.out.cell (p := ⟨b, off + k, none⟩) h4).trans h5
        have HLA : Hid ((catB (bs.take k)).length + bzs.length ≤ 3000) := Lib.hid (by rw [← HCL.out]; exact HL4.out)
        obtain ⟨i0, hi, hz0, hz1, hz2⟩ := info_parts Try_infoU8
        clear hm5 hk5 hf5 hcell HBR HO
        go_wp2_with (at_builtin; refine wpList_append_any rfl _ _ 22 rfl 5 i0 (.int .u8 0) 1 1 Try.underlying22 hi hz0 hz1 hz2 rfl (by decide) (.slice a2 (catB (bs.take k)).length c2) (catB (bs.take k)).length ((catB (bs.take k)).map (Value.int .u8)) rfl HO5.out bao bzs.length bcap (bzs.map (Value.int .u8)) rfl ?c1 ?c2 ?c3 (ints_one _ _) ?c5 ?c6 ?_)
        case c1 => simp
        case c2 => intro e; have := HI5.out; rw [e] at this; exact ints_none this
        case c3 => exact src_ints HI5.out
        case c5 => have := HLA.out; unfold maxLen; omega
        case c6 => have := HLA.out; omega
        intro ao6 cap6 w6 hown hgrow hat hnn
        have HO6 : Hid (w6.ownsRow 0 5 1 (.slice ao6 (catB (bs.take (k + 1))).length cap6) (catB (bs.take (k + 1))).length ((catB (bs.take (k + 1))).map (Value.int .u8))) := Lib.hid (by
          rw [HCL.out]
          have h1 := hown
          rw [← List.map_append, ← HCT.out] at h1
          exact h1)
        have hat' : ∀ x, (Value.slice ao6 (catB (bs.take (k + 1))).length cap6).ownBlock = some x → (Value.slice a2 (catB (bs.take k)).length c2).ownBlock = some x ∨ x = w5.heap.size := by rw [HCL.out]; exact hat
        have hrow : ∀ i, (Value.slice a2 (catB (bs.take k)).length c2).ownBlock = some i → v5.ownBlock ≠ some i ∧ i ≠ q ∧ i ≠ p ∧ i ≠ g ∧ w2.heap.size ≤ i := fun i hi => by
          have h1 := HF.out i hi
          exact ⟨fun e => by have := HV5.out i e; have := HOL.out i hi; omega, h1.2⟩
        have HK6 : Hid (Keeps (fun i => (Value.slice a2 (catB (bs.take k)).length c2).ownBlock = some i) w5 w6) := Lib.hid ((Keeps.refl _ w5).grown hgrow (fun i hi => Or.inl hi))
        have HT6 := Lib.hid (tab_keep HM5.out.tab HK6.out (fun e => by have := (hrow tb e).2.2.2.2; have := HM5.out.tl; omega))
        have HM6 : Hid (MacAt w2 w6 q p g tb zs (catB (bs.take (k + 1))) v5) := Lib.hid (HM5.out.far HK6.out HT6.out (fun e => (hrow q e).2.1 rfl) (fun e => (hrow p e).2.2.1 rfl) (fun e => (hrow g e).2.2.2.1 rfl) (fun b hb e => (hrow b e).1 hb))
        have HB6 : Hid (Below W.heap.size W w6) := Lib.hid (below_fp HB5.out HK6.out (fun i h => by have := (hrow i h).2.2.2.2; have := HWL.out; omega))
        have HF6 : Hid (∀ x, (Value.slice ao6 (catB (bs.take (k + 1))).length cap6).ownBlock = some x → v5.ownBlock ≠ some x ∧ x ≠ q ∧ x ≠ p ∧ x ≠ g ∧ w2.heap.size ≤ x) := Lib.hid (fun x hx => by
          rcases hat' x hx with h | h
          · exact hrow x h
          · have e1 := blk_lt HM5.out.blk
            have e2 := HM5.out.row.lt
            have e3 := HM5.out.hash.lt.1
            have e4 := HM5.out.size
            exact ⟨fun e => by have := HM5.out.hash.lt.2 x e; omega, by omega, by omega, by omega, by omega⟩)
        clear hown hgrow hat hnn hat' hrow hcell5
        rw [← HCL.out]
        clear HWR
        generalize hcat : catB (bs.take (k + 1)) = cat at *
        have HCAT := Lib.hid hcat
        clear hcat
        have hke : ((k + 1 : Nat) : Int) = (k : Int) + 1 := by omega
        have hwk : wrap64 ((k : Int) + 1) = (k : Int) + 1 := by have := HNL.out; unfold wrap64; omega
        go_wp2_with fail
        refine ⟨⟨k + 1, v5, ao6, cap6, by omega, by rw [hwk, hke], by rw [HCAT.out], by rw [HCAT.out]; exact HM6.out, HB6.out, by rw [HCAT.out]; exact HO6.out, by rw [HCAT.out]; exact HF6.out⟩, ?_⟩
        rw [hwk]
        simp only [intOf]
        omega
      · obtain rfl : k = n := by omega
        have HNL2 := Lib.hid (HTOT.out k)
        have HCB0 := Lib.hid (catB_inB (w := W) (bs.take k) (fun x hx => HBL.out.2 x (List.mem_of_mem_take hx)))
        generalize hcat : catB (bs.take k) = cat at *
        clear hcat
        have HSM := Lib.hid (mac_sum HM.out (by have := HNL2.out; omega))
        go_wp2_with fail
        refine HSM.out.mono ?_
        rintro e w5 ⟨⟨gx, cx, rfl, ht5, ho5, hl5, hk5, hg5⟩, hm5⟩
        have HM5 := Lib.hid hm5
        have HX5 := Lib.hid (owns_at ho5).2.1
        have HXG : Hid (gx ≠ tb) := Lib.hid (by have := HM.out.tab.lt; omega)
        have HO5 : Hid (w5.ownsRow 0 5 1 (.slice a2 cat.length c2) cat.length (cat.map (Value.int .u8))) := Lib.hid (ownsRow_same HO.out (fun x hx => hk5.block x (HO.out.lt x hx).2 (by have := HF.out x hx; have := HM.out.tl; omega)))
        have HB5 : Hid (Below W.heap.size W w5) := Lib.hid (below_keeps HBR.out hk5 HLT.out)
        clear ht5 ho5 hl5 hk5 hg5 hm5
        have HAB : Hid (∀ a, a2 = some a → a.block ≠ tb) := Lib.hid (fun a ha => by have := HF.out a.block (by rw [ha]; rfl); have := HM.out.tl; omega)
        have HON := Lib.hid (macOne_any tb ko zs kn kcap a2 cat cat.length c2 w5 HM5.out.tab HKN.out (ints_below HZ.out HB5.out) HB.out (HZ.out.far HLT.out) (by have := HKB.out; omega) rfl (owns_at HO5.out).2.1 HCB0.out (Or.inr HAB.out) (by have := HNL2.out; omega))
        go_wp2_with fail
        refine HON.out.mono ?_
        rintro e w6 ⟨gy, cy, rfl, ht6, ho6, hl6, hk6, hg6⟩
        have HM6 := Lib.hid (HM5.out.step hk6 ht6 (fun i hi => Or.inl hi))
        have HX6 : Hid (IntsAt .u8 w6 (some ⟨gx, 0, none⟩) (macF zs cat)) := Lib.hid (HX5.out.same (fun a ha hl => hk6.block a.block hl (by cases ha; exact HXG.out)))
        have HY6 := Lib.hid (owns_at ho6).2.1
        have HYG : Hid (gy ≠ tb) := Lib.hid (by have := HM5.out.tab.lt; omega)
        have HO6 : Hid (w6.ownsRow 0 5 1 (.slice a2 cat.length c2) cat.length (cat.map (Value.int .u8))) := Lib.hid (ownsRow_same HO5.out (fun x hx => hk6.block x (HO5.out.lt x hx).2 (by have := HF.out x hx; have := HM.out.tl; omega)))
        have HB6 : Hid (Below W.heap.size W w6) := Lib.hid (below_keeps HB5.out hk6 HLT.out)
        have HML := Lib.hid (macF_len zs cat)
        clear ht6 ho6 hl6 hk6 hg6 HSM HON HO HO5 HX5
        go_upto_region 16 with fail
        have HA6 := Lib.hid (owns_at HO6.out).2.1
        have HAL : Hid (∀ a, a2 = some a → a.block < w6.heap.size) := Lib.hid (fun a ha => (HO6.out.lt a.block (by rw [ha]; rfl)).2)
        clear HO6
        go_cut [90] (fun s wx => s = .bool false ∧ MacAt w2 wx q p g tb zs cat v ∧ IntsAt .u8 wx (some ⟨gx, 0, none⟩) (macF zs cat) ∧ IntsAt .u8 wx (some ⟨gy, 0, none⟩) (macF zs cat) ∧ Below W.heap.size W wx)
        case first =>
          by_cases h64 : (64 : Int) < (kn : Int)
          · have h65 : ¬ (kn : Int) < 64 := by omega
            have HEK := Lib.hid (macF_hash (key := zs) (by have := HKN.out; omega) cat)
            have HON := Lib.hid (one_any tb ko zs kn kcap w6 HM6.out.tab HKN.out (ints_below HZ.out HB6.out) HB.out (HZ.out.far HLT.out) (by have := HKB.out; omega))
            go_wp2_with fail
            refine HON.out.mono ?_
            rintro e w7 ⟨g7, c7, rfl, ht7, ho7, hl7, hk7, hg7⟩
            have HM7 := Lib.hid (HM6.out.step hk7 ht7 (fun i hi => Or.inl hi))
            have HX7 : Hid (IntsAt .u8 w7 (some ⟨gx, 0, none⟩) (macF zs cat)) := Lib.hid (HX6.out.same (fun a ha hl => hk7.block a.block hl (by cases ha; exact HXG.out)))
            have HY7 : Hid (IntsAt .u8 w7 (some ⟨gy, 0, none⟩) (macF zs cat)) := Lib.hid (HY6.out.same (fun a ha hl => hk7.block a.block hl (by cases ha; exact HYG.out)))
            have HA7 : Hid (IntsAt .u8 w7 a2 cat) := Lib.hid (HA6.out.same (fun a ha hl => hk7.block a.block hl (HAB.out a ha)))
            have HB7 : Hid (Below W.heap.size W w7) := Lib.hid (below_keeps HB6.out hk7 HLT.out)
            have HON2 := Lib.hid (macOne_any tb (some ⟨g7, 0, none⟩) (shaF zs) 32 c7 a2 cat cat.length c2 w7 HM7.out.tab (shaF_len _) (owns_at ho7).2.1 (shaF_inB _) (Or.inr (fun a ha => by cases ha; have := HM6.out.tab.lt; dsimp only; omega)) (by omega) rfl HA7.out HCB0.out (Or.inr HAB.out) (by have := HNL2.out; omega))
            rw [HEK.out] at HON2
            clear ht7 ho7 hl7 hk7 hg7
            go_wp2_with fail
            refine HON2.out.mono ?_
            rintro e w8 ⟨g8, c8, rfl, ht8, ho8, hl8, hk8, hg8⟩
            have HM8 := Lib.hid (HM7.out.step hk8 ht8 (fun i hi => Or.inl hi))
            have HX8 : Hid (IntsAt .u8 w8 (some ⟨gx, 0, none⟩) (macF zs cat)) := Lib.hid (HX7.out.same (fun a ha hl => hk8.block a.block hl (by cases ha; exact HXG.out)))
            have HY8 : Hid (IntsAt .u8 w8 (some ⟨gy, 0, none⟩) (macF zs cat)) := Lib.hid (HY7.out.same (fun a ha hl => hk8.block a.block hl (by cases ha; exact HYG.out)))
            have HB8 : Hid (Below W.heap.size W w8) := Lib.hid (below_keeps HB7.out hk8 HLT.out)
            have HE := Lib.hid (bytes_eq (some ⟨gy, 0, none⟩) (some ⟨g8, 0, none⟩) (macF zs cat) (macF zs cat) 32 32 cy c8 w8 HML.out HML.out HY8.out (owns_at ho8).2.1 (macF_inB _ _) (macF_inB _ _))
            rw [eqB_self] at HE
            clear ht8 ho8 hl8 hk8 hg8
            go_wp2_with fail
            refine HE.out.mono ?_
            rintro e w9 ⟨rfl, rfl⟩
            go_wp2_with fail
            go_meet
            case rel => exact ⟨rfl, HM8.out, HX8.out, HY8.out, HB8.out⟩
          by_cases h65 : (kn : Int) < 64
          · have HEK := Lib.hid (macF_zero (key := zs) (by have := HKN.out; omega) cat)
            go_wp2_with fail
            refine (copyBytes ko zs kn kcap w6 HKN.out (ints_below HZ.out HB6.out) (by omega)).mono ?_
            rintro e w7 ⟨cao, ccap, rfl, ho7, hb7, hf7⟩
            rw [HKN.out] at ho7 hf7 ⊢
            have HM7 := Lib.hid (HM6.out.below hb7)
            have HX7 := Lib.hid (ints_below HX6.out hb7)
            have HY7 := Lib.hid (ints_below HY6.out hb7)
            have HA7 := Lib.hid (ints_below HA6.out hb7)
            have HB7 : Hid (Below W.heap.size W w7) := Lib.hid (below_step HB6.out hb7)
            have HO7 := Lib.hid ho7
            have HF7 := Lib.hid hf7
            clear ho7 hb7 hf7
            obtain ⟨i0, hi, hz0, hz1, hz2⟩ := info_parts Try_infoU8
            go_wp2_with (at_builtin; refine wpList_append_yes rfl _ _ 22 rfl 5 i0 (.int .u8 0) 1 1 Try.underlying22 hi hz0 hz1 hz2 rfl (by decide) (.slice cao kn ccap) kn (zs.map (Value.int .u8)) rfl (HO7.out.alloc _) (some ⟨w7.heap.size, 0, none⟩) 1 1 [.int .u8 0] rfl (by rfl) (fun e => by cases e) (fun ad had => by cases had; exact World.news_of_block (heap_alloc_new _ _)) (by simp [Value.oneCell']) (by unfold maxLen; omega) (by omega) ?_)
            intro ao8 cap8 w8 hown hgrow hat hnn
            have HO8 : Hid (w8.ownsRow 0 5 1 (.slice ao8 (kn + 1) cap8) (kn + 1) ((zs ++ [0]).map (Value.int .u8))) := Lib.hid (by rw [List.map_append]; exact hown)
            have HK8 : Hid (Keeps (fun i => (Value.slice cao kn ccap).ownBlock = some i) w7 w8) := Lib.hid (((Keeps.refl _ w7).alloc _).grown hgrow (fun i hi => Or.inl hi))
            have HC0 : Hid (∀ i, (Value.slice cao kn ccap).ownBlock = some i → i ≠ tb ∧ i ≠ q ∧ i ≠ p ∧ i ≠ g ∧ v.ownBlock ≠ some i ∧ i ≠ gx ∧ i ≠ gy ∧ W.heap.size ≤ i ∧ (∀ a, a2 = some a → a.block ≠ i)) := Lib.hid (fun i hi => by
              have h0 := HF7.out i hi
              have e1 := HM6.out.tab.lt
              have e2 := blk_lt HM6.out.blk
              have e3 := HM6.out.row.lt
              have e4 := HM6.out.hash.lt.1
              have e5 : gx < w6.heap.size := HX6.out.lt (fun e => by have := HML.out; rw [e] at this; simp at this)
              have e6 : gy < w6.heap.size := HY6.out.lt (fun e => by have := HML.out; rw [e] at this; simp at this)
              have e7 := HB6.out.size
              exact ⟨by omega, by omega, by omega, by omega, fun e => by have := HM6.out.hash.lt.2 i e; omega, by omega, by omega, by omega, fun a ha e => by have := HAL.out a ha; omega⟩)
            have hat2 : ∀ x, (Value.slice ao8 (kn + 1) cap8).ownBlock = some x → x ≠ tb := fun x hx e => by
              rcases hat x hx with h | h
              · exact (HC0.out x h).1 e
              · have := HM7.out.tab.lt; omega
            have HT8 := Lib.hid (tab_keep HM7.out.tab HK8.out (fun e => (HC0.out tb e).1 rfl))
            have HM8 : Hid (MacAt w2 w8 q p g tb zs cat v) := Lib.hid (HM7.out.far HK8.out HT8.out (fun e => (HC0.out q e).2.1 rfl) (fun e => (HC0.out p e).2.2.1 rfl) (fun e => (HC0.out g e).2.2.2.1 rfl) (fun b hb e => (HC0.out b e).2.2.2.2.1 hb))
            have HX8 : Hid (IntsAt .u8 w8 (some ⟨gx, 0, none⟩) (macF zs cat)) := Lib.hid (HX7.out.same (fun a ha hl => HK8.out.block a.block hl (fun e => by cases ha; exact (HC0.out gx e).2.2.2.2.2.1 rfl)))
            have HY8 : Hid (IntsAt .u8 w8 (some ⟨gy, 0, none⟩) (macF zs cat)) := Lib.hid (HY7.out.same (fun a ha hl => HK8.out.block a.block hl (fun e => by cases ha; exact (HC0.out gy e).2.2.2.2.2.2.1 rfl)))
            have HA8 : Hid (IntsAt .u8 w8 a2 cat) := Lib.hid (HA7.out.same (fun a ha hl => HK8.out.block a.block hl (fun e => (HC0.out a.block e).2.2.2.2.2.2.2.2 a ha rfl)))
            have HB8 : Hid (Below W.heap.size W w8) := Lib.hid (below_fp HB7.out HK8.out (fun i h => (HC0.out i h).2.2.2.2.2.2.2.1))
            have HZN : Hid ((zs ++ [0]).length = kn + 1) := Lib.hid (by rw [List.length_append, HKN.out]; rfl)
            have HON2 := Lib.hid (macOne_any tb ao8 (zs ++ [0]) (kn + 1) cap8 a2 cat cat.length c2 w8 HT8.out HZN.out (owns_at HO8.out).2.1 (inB_app HB.out (fun z hz => by simp at hz; omega)) (Or.inr (fun a ha => hat2 a.block (by rw [ha]; rfl))) (by omega) rfl HA8.out HCB0.out (Or.inr HAB.out) (by have := HNL2.out; omega))
            rw [HEK.out] at HON2
            clear hown hgrow hat hnn hat2
            go_wp2_with fail
            refine HON2.out.mono ?_
            rintro e w9 ⟨g8, c8, rfl, ht8, ho8, hl8, hk8, hg8⟩
            have HM9 := Lib.hid (HM8.out.step hk8 ht8 (fun i hi => Or.inl hi))
            have HX9 : Hid (IntsAt .u8 w9 (some ⟨gx, 0, none⟩) (macF zs cat)) := Lib.hid (HX8.out.same (fun a ha hl => hk8.block a.block hl (by cases ha; exact HXG.out)))
            have HY9 : Hid (IntsAt .u8 w9 (some ⟨gy, 0, none⟩) (macF zs cat)) := Lib.hid (HY8.out.same (fun a ha hl => hk8.block a.block hl (by cases ha; exact HYG.out)))
            have HB9 : Hid (Below W.heap.size W w9) := Lib.hid (below_keeps HB8.out hk8 HLT.out)
            have HE := Lib.hid (bytes_eq (some ⟨gy, 0, none⟩) (some ⟨g8, 0, none⟩) (macF zs cat) (macF zs cat) 32 32 cy c8 w9 HML.out HML.out HY9.out (owns_at ho8).2.1 (macF_inB _ _) (macF_inB _ _))
            rw [eqB_self] at HE
            clear ht8 ho8 hl8 hk8 hg8
            go_wp2_with fail
            refine HE.out.mono ?_
            rintro e w10 ⟨rfl, rfl⟩
            go_wp2_with fail
            go_meet
            case rel => exact ⟨rfl, HM9.out, HX9.out, HY9.out, HB9.out⟩
          · go_wp2_with fail
            go_meet
            case rel => exact ⟨rfl, HM6.out, HX6.out, HY6.out, HB6.out⟩
        case rest =>
          obtain ⟨rfl, hm, hx, hy, hb⟩ := hcut
          rename World => w7
          have HM7 := Lib.hid hm
          have HX7 := Lib.hid hx
          have HY7 := Lib.hid hy
          have HB7 := Lib.hid hb
          clear hm hx hy hb
          go_wp2_with fail
          refine (first3_any w7).mono ?_
          rintro e w8 ⟨rfl, hb8⟩
          have HM8 := Lib.hid (HM7.out.below hb8)
          have HX8 := Lib.hid (ints_below HX7.out hb8)
          have HY8 := Lib.hid (ints_below HY7.out hb8)
          have HB8 : Hid (Below W.heap.size W w8) := Lib.hid (below_step HB7.out hb8)
          clear hb8
          have HE := Lib.hid (bytes_eq (some ⟨gx, 0, none⟩) (some ⟨gy, 0, none⟩) (macF zs cat) (macF zs cat) 32 32 cx cy w8 HML.out HML.out HX8.out HY8.out (macF_inB _ _) (macF_inB _ _))
          rw [eqB_self] at HE
          have HSM := Lib.hid (mac_sum HM8.out (by have := HNL2.out; omega))
          go_wp2_with fail
          refine HE.out.mono ?_
          rintro e w9 ⟨rfl, rfl⟩
          go_wp2_with fail
          refine HSM.out.mono ?_
          rintro e w10 ⟨⟨g10, c10, rfl, ht10, ho10, hl10, hk10, hg10⟩, hm10⟩
          have HY10 : Hid (IntsAt .u8 w10 (some ⟨gy, 0, none⟩) (macF zs cat)) := Lib.hid (HY8.out.same (fun a ha hl => hk10.block a.block hl (by cases ha; exact HYG.out)))
          have HB10 : Hid (Below W.heap.size W w10) := Lib.hid (below_keeps HB8.out hk10 HLT.out)
          have HE2 := Lib.hid (bytes_eq (some ⟨g10, 0, none⟩) (some ⟨gy, 0, none⟩) (macF zs cat) (macF zs cat) 32 32 c10 cy w10 HML.out HML.out (owns_at ho10).2.1 HY10.out (macF_inB _ _) (macF_inB _ _))
          rw [eqB_self] at HE2
          clear ht10 ho10 hl10 hk10 hg10 hm10
          go_wp2_with fail
          refine HE2.out.mono ?_
          rintro e w11 ⟨rfl, rfl⟩
          go_wp2
          go_ret
          exact ⟨rfl, HB10.out⟩

theorem walk_macParts (W : World) (ko : Option Addr) (zs : List Int) (kcap : Nat) (hz : IntsAt .u8 W ko zs) (hc : zs.length ≤ kcap) (wf : kcap ≤ maxLen ∧ ∀ n ∈ zs, (Lit.int .u8 n).wf = true) (ao : Option Addr) (bs : List BSl) (n cap : Nat) (hn : bs.length = n) (h : BytesList W ao bs) (hcap : n ≤ cap) (hcm : cap ≤ maxLen) :
    Calls Try.prog 9 #[.slice ko zs.length kcap, .slice ao n cap] W fun e w' => e = .returned (.bool true) ∧ Below W.heap.size W w' :=
  mparts_core W ko zs zs.length kcap rfl hz (inB_of_wf wf.2) ao bs n cap hn h hcap hcm

end Go.Proofs.Ythncpbihnhpacaa
