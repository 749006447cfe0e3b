/- ShaTable is true for every input, and its arguments read behind the call as before; no condition: the walk. -/
import Derived.Test.YthncpbihnhpacaaShaS
import Derived.Test.YthncpbihnhpacaaAppg
namespace Go.Proofs.Ythncpbihnhpacaa
open Go.RowKit
set_option linter.unusedVariables false
set_option linter.unusedSimpArgs false

theorem kB_63 : kB 63 = 3329325298 := by decide +kernel
theorem hB_7 : hB 7 = 1541459225 := by decide +kernel
theorem kB_64 : kB 64 = 0 := rfl
theorem kB_m : kB (-1) = 0 := rfl
theorem hB_8 : hB 8 = 0 := rfl
theorem tab_keep {w w' : World} {b : Nat} {S : Nat → Prop} (h : TabOk w b) (hk : Keeps S w w') (hS : ¬ S b) : TabOk w' b := h.same (hk.block b h.lt hS)
theorem below_fp {a b c : World} {S : Nat → Prop} (h : Below a.heap.size a b) (hk : Keeps S b c) (hS : ∀ i, S i → a.heap.size ≤ i) : Below a.heap.size a c :=
  ((Keeps.of_below (S := fun _ => False) h).trans hk (fun k e => Or.inr (hS k e))).below (Nat.le_refl _) (fun _ h => h.elim)

set_option maxRecDepth 100000 in
set_option maxHeartbeats 4000000 in
theorem table_core (W : World) (ao : Option Addr) (zs : List Int) (n cap : Nat) (hn : zs.length = n) (hz : IntsAt .u8 W ao zs) (hB : InB zs) (bo : Option Addr) (ys : List Int) (m d : Nat) (hm : ys.length = m) (hy : IntsAt .u8 W bo ys) (hC : InB ys) (q : Bool) :
    Calls Try.prog 5 #[.slice ao n cap, .slice bo m d, .bool q] W fun e w' => e = .returned (.bool true) ∧ Below W.heap.size W w' := by
  have HN := Lib.hid hn
  have HZ := Lib.hid hz
  have HB := Lib.hid hB
  have HM := Lib.hid hm
  have HY := Lib.hid hy
  have HC := Lib.hid hC
  clear hz hB hn hy hC hm
  go_enter Try.func5, Try.ntmps5
  go_wp2_with fail
  refine (first2_any W).mono ?_
  rintro e w1 ⟨rfl, hb1⟩
  have HB1 := Lib.hid hb1
  clear hb1
  go_wp2_with fail
  refine (newTable_any w1).mono ?_
  rintro e w2 ⟨rfl, ht2, hb2⟩
  have HT2 := Lib.hid ht2
  have HB2 : Hid (Below W.heap.size W w2) := Lib.hid (below_step HB1.out hb2)
  have HLS := Lib.hid HB1.out.size
  generalize w1.heap.size = sb at *
  clear hb2 ht2 HB1
  go_wp2_with fail
  refine (newTable_any w2).mono ?_
  rintro e w3 ⟨rfl, ht3, hb3⟩
  have HS3 := Lib.hid (HT2.out.below hb3)
  have HT3 := Lib.hid ht3
  have HB3 : Hid (Below W.heap.size W w3) := Lib.hid (below_step HB2.out hb3)
  have HLT : Hid (W.heap.size ≤ w2.heap.size ∧ sb < w2.heap.size) := Lib.hid ⟨HB2.out.size, HT2.out.lt⟩
  generalize w2.heap.size = tb at *
  clear hb3 ht3 HB2 HT2
  by_cases hbig : (1000 : Int) < (n : Int)
  · go_wp2_with fail
    refine (first2_any w3).mono ?_
    rintro e w4 ⟨rfl, hb4⟩
    have HB4 : Hid (Below W.heap.size W w4) := Lib.hid (below_step HB3.out hb4)
    clear hb4
    go_wp2
    go_ret
    exact ⟨rfl, HB4.out⟩
  by_cases hbig2 : (1000 : Int) < (m : Int)
  · go_wp2_with fail
    refine (first2_any w3).mono ?_
    rintro e w4 ⟨rfl, hb4⟩
    have HB4 : Hid (Below W.heap.size W w4) := Lib.hid (below_step HB3.out hb4)
    clear hb4
    go_wp2
    go_ret
    exact ⟨rfl, HB4.out⟩
  go_upto_region 6 with fail
  have HBN := Lib.hid hbig
  have HBM := Lib.hid hbig2
  clear hbig hbig2
  go_cut [67] (fun s wx => s = .bool false ∧ TabOk wx sb ∧ TabOk wx tb ∧ Below W.heap.size W wx)
  case first =>
    cases q
    · go_wp2_with fail
      go_meet
      case rel => exact ⟨rfl, HS3.out, HT3.out, HB3.out⟩
    · go_wp2_with fail
      refine (word_any sb 63 w3 HS3.out).mono ?_
      rintro e w4 ⟨rfl, ht4⟩
      rw [kB_63]
      have HS4 := Lib.hid ht4.ok
      have HT4 := Lib.hid (tab_keep HT3.out ht4.2 (by have := HLT.out; omega))
      have HB4 : Hid (Below W.heap.size W w4) := Lib.hid (below_fp HB3.out ht4.2 (by have := HLS.out; intro i hi; omega))
      clear ht4
      go_wp2_with fail
      refine (word_any sb 64 w4 HS4.out).mono ?_
      rintro e w5 ⟨rfl, ht5⟩
      rw [kB_64]
      have HS5 := Lib.hid ht5.ok
      have HT5 := Lib.hid (tab_keep HT4.out ht5.2 (by have := HLT.out; omega))
      have HB5 : Hid (Below W.heap.size W w5) := Lib.hid (below_fp HB4.out ht5.2 (by have := HLS.out; intro i hi; omega))
      clear ht5
      go_wp2_with fail
      refine (word_any sb (-1) w5 HS5.out).mono ?_
      rintro e w6 ⟨rfl, ht6⟩
      rw [kB_m]
      have HS6 := Lib.hid ht6.ok
      have HT6 := Lib.hid (tab_keep HT5.out ht6.2 (by have := HLT.out; omega))
      have HB6 : Hid (Below W.heap.size W w6) := Lib.hid (below_fp HB5.out ht6.2 (by have := HLS.out; intro i hi; omega))
      clear ht6
      go_wp2_with fail
      refine (start_any sb 7 w6 HS6.out).mono ?_
      rintro e w7 ⟨rfl, ht7⟩
      rw [hB_7]
      have HS7 := Lib.hid ht7.ok
      have HT7 := Lib.hid (tab_keep HT6.out ht7.2 (by have := HLT.out; omega))
      have HB7 : Hid (Below W.heap.size W w7) := Lib.hid (below_fp HB6.out ht7.2 (by have := HLS.out; intro i hi; omega))
      clear ht7
      go_wp2_with fail
      refine (start_any sb 8 w7 HS7.out).mono ?_
      rintro e w8 ⟨rfl, ht8⟩
      rw [hB_8]
      have HS8 := Lib.hid ht8.ok
      have HT8 := Lib.hid (tab_keep HT7.out ht8.2 (by have := HLT.out; omega))
      have HB8 : Hid (Below W.heap.size W w8) := Lib.hid (below_fp HB7.out ht8.2 (by have := HLS.out; intro i hi; omega))
      clear ht8
      go_wp2_with fail
      go_meet
      case rel => exact ⟨rfl, HS8.out, HT8.out, HB8.out⟩
  case rest =>
    obtain ⟨rfl, hs, ht, hb⟩ := hcut
    have HS9 := Lib.hid hs
    have HT9 := Lib.hid ht
    have HB9 := Lib.hid hb
    clear hs ht hb HS3 HT3 HB3
    rename World => w9
    go_wp2_with fail
    refine (new_any sb w9 HS9.out).mono ?_
    rintro e w4 ⟨rfl, hs4, hg4, hk4⟩
    have HS4 := Lib.hid hs4
    have HT4 := Lib.hid (tab_keep HT9.out hk4 (by have := HLT.out; omega))
    have HG4 := Lib.hid hg4
    have HB4 : Hid (Below W.heap.size W w4) := Lib.hid (below_keeps HB9.out hk4 HLS.out)
    have HL1 : Hid (W.heap.size ≤ w9.heap.size ∧ sb < w9.heap.size ∧ tb < w9.heap.size) := Lib.hid ⟨HB9.out.size, HS9.out.lt, HT9.out.lt⟩
    generalize w9.heap.size = p1 at *
    clear hs4 hg4 hk4 HS9 HT9 HB9
    go_wp2_with fail
    refine (new_any sb w4 HS4.out).mono ?_
    rintro e w5 ⟨rfl, hs5, hh5, hk5⟩
    have HS5 := Lib.hid hs5
    have HT5 := Lib.hid (tab_keep HT4.out hk5 (by have := HLT.out; omega))
    have HG5 : Hid (HashAt w5 p1 sb [] (.slice none 0 0)) := Lib.hid (HG4.out.keep hk5 (by have := HL1.out; omega) (fun g hg => by cases hg))
    have HH5 := Lib.hid hh5
    have HB5 : Hid (Below W.heap.size W w5) := Lib.hid (below_keeps HB4.out hk5 HLS.out)
    have HL2 : Hid (p1 < w4.heap.size ∧ w4.heap.size < w5.heap.size) := Lib.hid ⟨HG4.out.lt.1, hh5.lt.1⟩
    generalize w4.heap.size = p2 at *
    clear hs5 hh5 hk5 HS4 HT4 HG4 HB4
    have HWR := Lib.hid (write_any p1 sb _ [] w5 HS5.out HG5.out ao zs n cap HN.out (ints_below HZ.out HB5.out) HB.out (HZ.out.far HL1.out.1) (by have := HBN.out; simp; omega))
    go_wp2_with fail
    refine HWR.out.mono ?_
    rintro e w6 ⟨rfl, v1, hs6, hg6, hk6, hf6⟩
    rw [List.nil_append] at hg6
    have HS6 := Lib.hid hs6
    have HG6 := Lib.hid hg6
    have hk6 : Keeps (fun i => i = sb ∨ i = p1) w5 w6 := hk6.mono (fun i _ h => by
      rcases h with h | h | h
      · exact Or.inl h
      · exact Or.inr h
      · cases h)
    have HT6 := Lib.hid (tab_keep HT5.out hk6 (by have := HLT.out; have := HL1.out; omega))
    have HH6 : Hid (HashAt w6 p2 sb [] (.slice none 0 0)) := Lib.hid (HH5.out.keep hk6 (by have := HL1.out; have := HL2.out; omega) (fun g hg => by cases hg))
    have HF6 := Lib.hid hf6
    have HB6 : Hid (Below W.heap.size W w6) := Lib.hid (below_fp HB5.out hk6 (by have := HLS.out; have := HL1.out; intro i hi; omega))
    have HL6 := Lib.hid hk6.size
    clear hs6 hg6 hk6 hf6 HWR HS5 HT5 HG5 HH5 HB5
    have HWR := Lib.hid (write_any p2 sb _ [] w6 HS6.out HH6.out bo ys m d HM.out (ints_below HY.out HB6.out) HC.out (HY.out.far (by have := HL1.out; have := HL2.out; omega)) (by have := HBM.out; simp; omega))
    go_wp2_with fail
    refine HWR.out.mono ?_
    rintro e w7 ⟨rfl, v2, hs7, hh7, hk7, hf7⟩
    rw [List.nil_append] at hh7
    have HS7 := Lib.hid hs7
    have HH7 := Lib.hid hh7
    have hk7 : Keeps (fun i => i = sb ∨ i = p2) w6 w7 := hk7.mono (fun i _ h => by
      rcases h with h | h | h
      · exact Or.inl h
      · exact Or.inr h
      · cases h)
    have HT7 := Lib.hid (tab_keep HT6.out hk7 (by have := HLT.out; have := HL1.out; have := HL2.out; omega))
    have HG7 : Hid (HashAt w7 p1 sb zs v1) := Lib.hid (HG6.out.keep hk7 (by have := HL1.out; have := HL2.out; omega) (fun g hg => by have := HF6.out g hg; have := HL1.out; have := HL2.out; omega))
    have HF7 := Lib.hid hf7
    have HB7 : Hid (Below W.heap.size W w7) := Lib.hid (below_fp HB6.out hk7 (by have := HLS.out; have := HL1.out; have := HL2.out; intro i hi; omega))
    have HL7 := Lib.hid hk7.size
    have HL8 : Hid (∀ g, v1.ownBlock = some g → g < w6.heap.size) := Lib.hid HG6.out.lt.2
    clear hs7 hh7 hk7 hf7 HWR HS6 HT6 HG6 HH6 HB6
    have HWR := Lib.hid (write_any p1 sb v1 zs w7 HS7.out HG7.out bo ys m d HM.out (ints_below HY.out HB7.out) HC.out (HY.out.far (by have := HL1.out; omega)) (by have := HBN.out; have := HBM.out; have := HN.out; omega))
    go_wp2_with fail
    refine HWR.out.mono ?_
    rintro e w8 ⟨rfl, v3, hs8, hg8, hk8, hf8⟩
    have HS8 := Lib.hid hs8
    have HG8 := Lib.hid hg8
    have HT8 := Lib.hid (tab_keep HT7.out hk8 (fun h => by
      have := HLT.out; have := HL1.out; have := HL2.out
      rcases h with h | h | h
      · omega
      · omega
      · have := HF6.out _ h; omega))
    have HH8 : Hid (HashAt w8 p2 sb ys v2) := Lib.hid (HH7.out.keep hk8 (fun h => by
      have := HLT.out; have := HL1.out; have := HL2.out
      rcases h with h | h | h
      · omega
      · omega
      · have := HF6.out _ h; omega) (fun g hg h => by
      have := HLT.out; have := HL1.out; have := HL2.out; have := HF7.out g hg; have := HL6.out
      rcases h with h | h | h
      · omega
      · omega
      · have := HL8.out _ h; omega))
    have HB8 : Hid (Below W.heap.size W w8) := Lib.hid (below_fp HB7.out hk8 (fun i h => by
      have := HLT.out; have := HL1.out; have := HL2.out; have := HLS.out
      rcases h with h | h | h
      · omega
      · omega
      · have := HF6.out _ h; omega))
    clear hs8 hg8 hk8 hf8 HWR HS7 HT7 HG7 HH7 HB7
    have HSM := Lib.hid (shaSum_any p1 sb v3 (zs ++ ys) w8 HS8.out HG8.out (by have := HBN.out; have := HBM.out; have := HN.out; have := HM.out; rw [List.length_append]; omega))
    go_wp2_with fail
    refine HSM.out.mono ?_
    rintro e w10 ⟨g1, c1, rfl, hs10, ho10, hl10, hk10, hg10⟩
    have HS10 := Lib.hid hs10
    have HT10 := Lib.hid (tab_keep HT8.out hk10 (by have := HLT.out; omega))
    have HH10 : Hid (HashAt w10 p2 sb ys v2) := Lib.hid (HH8.out.keep hk10 HH8.out.2.2.2.2.1 (fun g' hg' e => HH8.out.2.2.2.1 (by rw [hg', e])))
    have HI10 := Lib.hid (owns_at ho10).2.1
    have HG10 : Hid (g1 ≠ sb ∧ g1 ≠ tb) := Lib.hid (by have := HS8.out.lt; have := HT8.out.lt; omega)
    have HB10 : Hid (Below W.heap.size W w10) := Lib.hid (below_keeps HB8.out hk10 HLS.out)
    clear hs10 ho10 hl10 hk10 hg10 HSM HS8 HT8 HG8 HH8 HB8
    have HSM := Lib.hid (shaSum_any p2 sb v2 ys w10 HS10.out HH10.out (by have := HBM.out; have := HM.out; omega))
    go_wp2_with fail
    refine HSM.out.mono ?_
    rintro e w11 ⟨g2, c2, rfl, hs11, ho11, hl11, hk11, hg11⟩
    have HT11 := Lib.hid (tab_keep HT10.out hk11 (by have := HLT.out; omega))
    have HI11 : Hid (IntsAt .u8 w11 (some ⟨g1, 0, none⟩) (shaF (zs ++ ys))) := Lib.hid (HI10.out.same (fun a ha hl => hk11.block a.block hl (by cases ha; exact HG10.out.1)))
    have HJ11 := Lib.hid (owns_at ho11).2.1
    have HG11 : Hid (g2 ≠ sb ∧ g2 ≠ tb) := Lib.hid (by have := HS10.out.lt; have := HT10.out.lt; omega)
    have HB11 : Hid (Below W.heap.size W w11) := Lib.hid (below_keeps HB10.out hk11 HLS.out)
    clear hs11 ho11 hl11 hk11 hg11 HSM HS10 HT10 HH10 HI10 HB10
    go_wp2_with fail
    refine (first2_any w11).mono ?_
    rintro e w12 ⟨rfl, hb12⟩
    have HT12 := Lib.hid (HT11.out.below hb12)
    have HI12 := Lib.hid (ints_below HI11.out hb12)
    have HJ12 := Lib.hid (ints_below HJ11.out hb12)
    have HB12 : Hid (Below W.heap.size W w12) := Lib.hid (below_step HB11.out hb12)
    clear hb12 HT11 HI11 HJ11 HB11
    have HSX := Lib.hid (shaF_len (zs ++ ys))
    have HSY := Lib.hid (shaF_len ys)
    have HON := Lib.hid (one_any tb bo ys m d w12 HT12.out HM.out (ints_below HY.out HB12.out) HC.out (HY.out.far HLT.out.1) (by have := HBM.out; omega))
    go_wp2_with fail
    refine HON.out.mono ?_
    rintro e w13 ⟨g3, c3, rfl, ht13, ho13, hl13, hk13, hg13⟩
    have HE := Lib.hid (bytes_eq (some ⟨g2, 0, none⟩) (some ⟨g3, 0, none⟩) (shaF ys) (shaF ys) 32 32 c2 c3 w13 HSY.out HSY.out (HJ12.out.same (fun a ha hl => hk13.block a.block hl (by cases ha; exact HG11.out.2))) (owns_at ho13).2.1 (shaF_inB _) (shaF_inB _))
    have HT13 := Lib.hid ht13
    have HI13 : Hid (IntsAt .u8 w13 (some ⟨g1, 0, none⟩) (shaF (zs ++ ys))) := Lib.hid (HI12.out.same (fun a ha hl => hk13.block a.block hl (by cases ha; exact HG10.out.2)))
    have HB13 : Hid (Below W.heap.size W w13) := Lib.hid (below_fp HB12.out hk13 (by have := HLT.out; intro i hi; omega))
    clear ht13 ho13 hl13 hk13 hg13 HON HT12 HI12 HJ12 HB12
    go_wp2_with fail
    refine HE.out.mono ?_
    rintro e w14 ⟨rfl, rfl⟩
    rw [eqB_self]
    go_wp2_with fail
    refine (copyBytes ao zs n cap w13 HN.out (ints_below HZ.out HB13.out) (by have := HBN.out; omega)).mono ?_
    rintro e w15 ⟨cao, ccap, rfl, ho15, hb15, hf15⟩
    rw [HN.out] at ho15 hf15 ⊢
    have HO15 := Lib.hid ho15
    have HF15 := Lib.hid hf15
    have HT15 := Lib.hid (HT13.out.below hb15)
    have HI15 := Lib.hid (ints_below HI13.out hb15)
    have HB15 : Hid (Below W.heap.size W w15) := Lib.hid (below_step HB13.out hb15)
    have HY15 := Lib.hid (ints_below HY.out HB15.out)
    have HW15 := Lib.hid hb15.size
    have HL15 : Hid (tb < w13.heap.size ∧ g1 < w13.heap.size ∧ W.heap.size ≤ w13.heap.size) := Lib.hid ⟨HT13.out.lt, HI13.out.lt (fun e => by have := shaF_len (zs ++ ys); rw [e] at this; simp at this), HB13.out.size⟩
    clear ho15 hf15 hb15 HT13 HI13 HB13
    obtain ⟨i0, hi, hz0, hz1, hz2⟩ := info_parts Try_infoU8
    go_wp2_with (at_builtin; refine wpList_append_yes rfl _ _ 22 rfl 5 i0 (.int .u8 0) 1 1 Try.underlying22 hi hz0 hz1 hz2 rfl (by decide) (.slice cao n ccap) n (zs.map (Value.int .u8)) rfl HO15.out bo m d (ys.map (Value.int .u8)) rfl ?c1 ?c2 ?c3 (ints_one _ _) ?c5 ?c6 ?_)
    case c1 => simp [HM.out]
    case c2 => intro e; have := HY15.out; rw [e] at this; have h1 := ints_none this; have h2 := HM.out; rw [h1] at h2; simpa using h2.symm
    case c3 => exact src_ints HY15.out
    case c5 => have := HBN.out; have := HBM.out; unfold maxLen; omega
    case c6 => have := HBN.out; have := HBM.out; omega
    intro ao6 cap6 w16 hown hgrow hat hnn
    rw [← List.map_append] at hown
    have HL16 : Hid (n + m ≤ 2000) := Lib.hid (by have := HBN.out; have := HBM.out; omega)
    have HSZ : Hid ((zs ++ ys).length = n + m) := Lib.hid (by rw [List.length_append, HN.out, HM.out])
    have HCT : Hid (∀ g, (Value.slice cao n ccap).ownBlock = some g → w13.heap.size ≤ g) := HF15
    have HLW := Lib.hid (show w13.heap.size ≤ w15.heap.size from HW15.out)
    have HK16 : Hid (Keeps (fun i => (Value.slice cao n ccap).ownBlock = some i) w15 w16) := Lib.hid ((Keeps.refl _ w15).grown hgrow (fun i hi => Or.inl hi))
    have HT16 := Lib.hid (tab_keep HT15.out HK16.out (fun h => by have := HF15.out _ h; have := HL15.out; omega))
    have HI16 : Hid (IntsAt .u8 w16 (some ⟨g1, 0, none⟩) (shaF (zs ++ ys))) := Lib.hid (HI15.out.same (fun a ha hl => HK16.out.block a.block hl (fun h => by cases ha; have h1 : w13.heap.size ≤ g1 := HF15.out _ h; have := HL15.out; omega)))
    have HB16 : Hid (Below W.heap.size W w16) := Lib.hid (below_fp HB15.out HK16.out (fun i h => by have := HF15.out i h; have := HL15.out; omega))
    have HF16 : Hid (∀ a, ao6 = some a → a.block ≠ tb) := Lib.hid (fun a ha e => by
      have h1 := hat a.block (by rw [ha]; rfl)
      have h2 := HT15.out.lt
      have h3 := HL15.out
      rcases h1 with h | h
      · have := HF15.out _ h; omega
      · omega)
    have HON := Lib.hid (one_any tb ao6 (zs ++ ys) (n + m) cap6 w16 HT16.out HSZ.out (owns_at hown).2.1 (inB_app HB.out HC.out) (Or.inr HF16.out) (by have := HL16.out; omega))
    clear hown hgrow hat hnn
    go_wp2_with fail
    refine HON.out.mono ?_
    rintro e w17 ⟨g5, c5, rfl, ht17, ho17, hl17, hk17, hg17⟩
    have HE2 := Lib.hid (bytes_eq (some ⟨g1, 0, none⟩) (some ⟨g5, 0, none⟩) (shaF (zs ++ ys)) (shaF (zs ++ ys)) 32 32 c1 c5 w17 HSX.out HSX.out (HI16.out.same (fun a ha hl => hk17.block a.block hl (by cases ha; exact HG10.out.2))) (owns_at ho17).2.1 (shaF_inB _) (shaF_inB _))
    have HB17 : Hid (Below W.heap.size W w17) := Lib.hid (below_fp HB16.out hk17 (by have := HLT.out; intro i hi; omega))
    clear ht17 ho17 hl17 hk17 hg17
    go_wp2_with fail
    refine HE2.out.mono ?_
    rintro e w18 ⟨rfl, rfl⟩
    rw [eqB_self]
    go_wp2
    go_ret
    exact ⟨rfl, HB17.out⟩

theorem walk_shaTable (W : World) (ao : Option Addr) (zs : List Int) (cap : Nat) (hz : IntsAt .u8 W ao zs) (hc : zs.length ≤ cap) (wf : cap ≤ maxLen ∧ ∀ n ∈ zs, (Lit.int .u8 n).wf = true) (bo : Option Addr) (ys : List Int) (d : Nat) (hy : IntsAt .u8 W bo ys) (hc2 : ys.length ≤ d) (wf2 : d ≤ maxLen ∧ ∀ n ∈ ys, (Lit.int .u8 n).wf = true) (q : Bool) :
    Calls Try.prog 5 #[.slice ao zs.length cap, .slice bo ys.length d, .bool q] W fun e w' => e = .returned (.bool true) ∧ Below W.heap.size W w' :=
  table_core W ao zs zs.length cap rfl hz (inB_of_wf wf.2) bo ys ys.length d rfl hy (inB_of_wf wf2.2) q

end Go.Proofs.Ythncpbihnhpacaa
