/- ShaParts is true for every input, and its arguments read behind the call as before; no condition: the walk. -/
import Derived.Test.YthncpbihnhpacaaShaS
import Derived.Test.YthncpbihnhpacaaFew
namespace Go.Proofs.Ythncpbihnhpacaa
open Go.RowKit
set_option linter.unusedVariables false
set_option linter.unusedSimpArgs false

def catB (bs : List BSl) : List Int := (bs.map BSl.zs).flatten
theorem catB_len (bs : List BSl) : (catB bs).length = (bs.map (fun b => b.zs.length)).sum := by
  unfold catB
  induction bs with
  | nil => rfl
  | cons b bs ih => simp only [List.map_cons, List.flatten_cons, List.length_append, List.sum_cons, ih]
theorem catB_take (bs : List BSl) (k : Nat) (h : k < bs.length) : catB (bs.take (k + 1)) = catB (bs.take k) ++ bs[k].zs := by
  unfold catB
  rw [List.take_succ_eq_append_getElem h, List.map_append, List.flatten_append]
  simp
theorem sum_take_le (l : List Nat) (k : Nat) : (l.take k).sum ≤ l.sum := by
  induction l generalizing k with
  | nil => simp
  | cons x l ih =>
    cases k with
    | zero => simp
    | succ k => simp only [List.take_succ_cons, List.sum_cons]; have := ih k; omega
theorem catB_inB {w : World} (bs : List BSl) (h : ∀ x ∈ bs, x.ok w) : InB (catB bs) := fun z hz => by
  unfold catB at hz
  obtain ⟨l, hl, hz⟩ := List.mem_flatten.1 hz
  obtain ⟨b, hb, rfl⟩ := List.mem_map.1 hl
  exact (h b hb).2.1 z hz

set_option maxRecDepth 100000 in
set_option maxHeartbeats 4000000 in
theorem walk_shaParts (W : World) (ao : Option Addr) (bs : List BSl) (n cap : Nat) (hn : bs.length = n) (h : BytesList W ao bs) (hcap : n ≤ cap) (hcm : cap ≤ maxLen) :
    Calls Try.prog 4 #[.slice ao n cap] W fun e w' => e = .returned (.bool true) ∧ Below W.heap.size W w' := by
  have HN := Lib.hid hn
  have HBL := Lib.hid h
  have HC := Lib.hid (And.intro hcap hcm)
  clear hn h hcap hcm
  go_enter Try.func4, Try.ntmps4
  go_wp2_with fail
  refine (first2_any W).mono ?_
  rintro e w1 ⟨rfl, hb1⟩
  have HB1 := Lib.hid hb1
  clear hb1
  go_wp2_with fail
  refine (newTable_any w1).mono ?_
  rintro e w2 ⟨rfl, ht2, hb2⟩
  have HT2 := Lib.hid ht2
  have HB2 : Hid (Below W.heap.size W w2) := Lib.hid (below_step HB1.out hb2)
  have HLT := Lib.hid HB1.out.size
  generalize w1.heap.size = tb at *
  clear hb2 ht2 HB1
  have HFW := Lib.hid (few_any ao bs n cap 200 3000 w2 HN.out (HBL.out.below HB2.out) HC.out.1 HC.out.2 (by omega) (by omega))
  cases hfew : fewB (bs.map (fun b => b.zs.length)) 200 3000
  · rw [hfew] at HFW
    clear hfew
    go_wp2_with fail
    refine HFW.out.mono ?_
    rintro e w3 ⟨rfl, rfl⟩
    go_wp2_with fail
    refine (first2_any w2).mono ?_
    rintro e w3 ⟨rfl, hb3⟩
    have HB3 : Hid (Below W.heap.size W w3) := Lib.hid (below_step HB2.out hb3)
    clear hb3
    go_wp2
    go_ret
    exact ⟨rfl, HB3.out⟩
  · have HFF := Lib.hid (few_facts _ _ _ hfew)
    rw [hfew] at HFW
    clear hfew
    go_wp2_with fail
    refine HFW.out.mono ?_
    rintro e w3 ⟨rfl, rfl⟩
    go_wp2_with fail
    refine (new_any tb w2 HT2.out).mono ?_
    rintro e w4 ⟨rfl, ht4, hh4, hk4⟩
    have HT4 := Lib.hid ht4
    have HH4 := Lib.hid hh4
    have HB4 : Hid (Below W.heap.size W w4) := Lib.hid (below_keeps HB2.out hk4 HLT.out)
    have HPW : Hid (W.heap.size ≤ w2.heap.size ∧ tb < w2.heap.size) := Lib.hid ⟨HB2.out.size, HT2.out.lt⟩
    have HTOT : Hid (∀ k, (catB (bs.take k)).length ≤ 3000) := Lib.hid (fun k => by
      rw [catB_len, List.map_take]
      exact Nat.le_trans (sum_take_le _ _) HFF.out.2)
    have HNL : Hid (n ≤ 200) := Lib.hid (by have := HFF.out.1; rw [List.length_map] at this; rw [← HN.out]; exact this)
    clear ht4 hh4 hk4 HB2 HT2 HFW
    generalize w2.heap.size = p at *
    go_wp2_with fail
    go_loopw [5, 6] (fun u i wr => ∃ (k : Nat) (v : Value) (a2 : Option Addr) (c2 : Nat), k ≤ n ∧ i = .int .i64 k ∧ u = .slice a2 (catB (bs.take k)).length c2 ∧ TabOk wr tb ∧ HashAt wr p tb (catB (bs.take k)) v ∧ Below W.heap.size W wr ∧ wr.ownsRow 0 5 1 (.slice a2 (catB (bs.take k)).length c2) (catB (bs.take k)).length ((catB (bs.take k)).map (Value.int .u8)) ∧ (∀ g, (Value.slice a2 (catB (bs.take k)).length c2).ownBlock = some g → v.ownBlock ≠ some g ∧ g ≠ p ∧ g ≠ tb ∧ W.heap.size ≤ g) ∧ (∀ g, v.ownBlock = some g → W.heap.size ≤ g)) (fun _ i _ => n - (intOf i).toNat)
    case atStart => exact ⟨0, .slice none 0 0, none, 0, Nat.zero_le _, rfl, rfl, HT4.out, HH4.out, HB4.out, World.ownsRow_nil _ _ _ _, (fun g (hg : (Value.slice none 0 0).ownBlock = some g) => by cases hg), (fun g (hg : (Value.slice none 0 0).ownBlock = some g) => by cases hg)⟩
    case round =>
      obtain ⟨k, v, a2, c2, hk, rfl, rfl, ht, hh, hb, ho, hf, hv⟩ := hrel
      have HT := Lib.hid ht
      have HH := Lib.hid hh
      have HBR := Lib.hid hb
      have HO := Lib.hid ho
      have HF := Lib.hid hf
      have HV := Lib.hid hv
      have HLT3 := Lib.hid (HTOT.out k)
      clear ht hh hb ho hf hv
      by_cases hlt : k < n
      · have hkl : k < bs.length := by rw [HN.out]; exact hlt
        have HBW := Lib.hid (HBL.out.below HBR.out)
        obtain ⟨b, off, rfl, hcell⟩ : ∃ b off, ao = some ⟨b, off, none⟩ ∧ wr.cell? ⟨b, off + k, none⟩ = some bs[k].val := by
          rcases HBW.out.1 with h | ⟨b, off, h1, h2⟩
          · rw [h] at hkl; simp at hkl
          · exact ⟨b, off, h1, h2 k hkl⟩
        have HOK := Lib.hid (HBL.out.2 bs[k] (List.getElem_mem hkl))
        have HOKW := Lib.hid (HBW.out.2 bs[k] (List.getElem_mem hkl))
        have HCT := Lib.hid (catB_take bs k hkl)
        have HL4 := Lib.hid (HTOT.out (k + 1))
        obtain ⟨bk, hbk⟩ : ∃ bk, bk = bs[k] := ⟨_, rfl⟩
        rw [← hbk] at hcell HOK HOKW HCT
        clear hbk HBW
        obtain ⟨bao, bzs, bcap⟩ := bk
        unfold BSl.val at hcell
        dsimp only at hcell HCT
        have HBN : Hid (bzs = [] ∨ ∀ a, bao = some a → a.block < W.heap.size) := Lib.hid HOK.out.2.2.2.2
        have HWR := Lib.hid (write_any p tb v (catB (bs.take k)) wr HT.out HH.out bao bzs bzs.length bcap rfl HOKW.out.1 HOK.out.2.1 (HBN.out.imp id (fun h a ha e => by have := h a ha; have := HPW.out; omega)) (by have := HL4.out; rw [HCT.out, List.length_append] at this; omega))
        have HCL : Hid ((catB (bs.take (k + 1))).length = (catB (bs.take k)).length + bzs.length) := Lib.hid (by rw [HCT.out, List.length_append])
        have b0 : (0 : Int) ≤ (k : Int) := by omega
        have b1 : (k : Int) < (n : Int) := by omega
        go_wp2_with fail
        refine HWR.out.mono ?_
        rintro e w5 ⟨rfl, v5, ht5, hh5, hk5, hf5⟩
        rw [← HCT.out] at hh5
        have HT5 := Lib.hid ht5
        have HH5 := Lib.hid hh5
        have HV5 := Lib.hid hf5
        have HB5 : Hid (Below W.heap.size W w5) := Lib.hid (((Keeps.of_below (S := fun _ => False) HBR.out).trans hk5 (fun i h => Or.inr (by
          rcases h with h | h | h
          · have := HLT.out; omega
          · have := HPW.out; omega
          · exact HV.out i h))).below (Nat.le_refl _) (fun _ h => h.elim))
        have HO5 : Hid (w5.ownsRow 0 5 1 (.slice a2 (catB (bs.take k)).length c2) (catB (bs.take k)).length ((catB (bs.take k)).map (Value.int .u8))) := Lib.hid (ownsRow_same HO.out (fun g hg => hk5.block g (HO.out.lt g hg).2 (by
          have h1 := HF.out g hg
          rintro (h | h | h)
          · exact h1.2.2.1 h
          · exact h1.2.1 h
          · exact h1.1 h)))
        have HOL : Hid (∀ g, (Value.slice a2 (catB (bs.take k)).length c2).ownBlock = some g → g < wr.heap.size) := Lib.hid (fun g hg => (HO.out.lt g hg).2)
        have HS5 := Lib.hid hk5.size
        have HPL : Hid (p < wr.heap.size ∧ tb < wr.heap.size ∧ W.heap.size ≤ wr.heap.size) := Lib.hid ⟨HH.out.lt.1, HT.out.lt, HBR.out.size⟩
        have HI5 : Hid (IntsAt .u8 w5 bao bzs) := Lib.hid (ints_below HOK.out.1 HB5.out)
        have hcell5 : w5.cell? ⟨b, off + k, none⟩ = some (.slice bao bzs.length bcap) := by
          have hbl := HBL.out.1
          rcases hbl with h | ⟨b', off', h1, h2⟩
          · rw [h] at hkl; simp at hkl
          · cases h1
            have h3 := h2 k hkl
            have h4 : b < W.heap.size := World.block_lt_of_cell? W _ h3
            have h5 := (HBR.out.cell (p := ⟨b, off + k, none⟩) h4).symm.trans hcell
            exact (HB5.out.cell (p := ⟨b, off + k, none⟩) h4).trans h5
        have HLA : Hid ((catB (bs.take k)).length + bzs.length ≤ 3000) := Lib.hid (by rw [← HCL.out]; exact HL4.out)
        obtain ⟨i0, hi, hz0, hz1, hz2⟩ := info_parts Try_infoU8
        clear ht5 hh5 hk5 hf5 hcell HT HH HBR HO
        go_wp2_with (at_builtin; refine wpList_append_any rfl _ _ 22 rfl 5 i0 (.int .u8 0) 1 1 Try.underlying22 hi hz0 hz1 hz2 rfl (by decide) (.slice a2 (catB (bs.take k)).length c2) (catB (bs.take k)).length ((catB (bs.take k)).map (Value.int .u8)) rfl HO5.out bao bzs.length bcap (bzs.map (Value.int .u8)) rfl ?c1 ?c2 ?c3 (ints_one _ _) ?c5 ?c6 ?_)
        case c1 => simp
        case c2 => intro e; have := HI5.out; rw [e] at this; exact ints_none this
        case c3 => exact src_ints HI5.out
        case c5 => have := HLA.out; unfold maxLen; omega
        case c6 => have := HLA.out; omega
        intro ao6 cap6 w6 hown hgrow hat hnn
        have HO6 : Hid (w6.ownsRow 0 5 1 (.slice ao6 (catB (bs.take (k + 1))).length cap6) (catB (bs.take (k + 1))).length ((catB (bs.take (k + 1))).map (Value.int .u8))) := Lib.hid (by
          rw [HCL.out]
          have h1 := hown
          rw [← List.map_append, ← HCT.out] at h1
          exact h1)
        have hat' : ∀ g, (Value.slice ao6 (catB (bs.take (k + 1))).length cap6).ownBlock = some g → (Value.slice a2 (catB (bs.take k)).length c2).ownBlock = some g ∨ g = w5.heap.size := by rw [HCL.out]; exact hat
        have hrow : ∀ i, (Value.slice a2 (catB (bs.take k)).length c2).ownBlock = some i → i ≠ tb ∧ i ≠ p ∧ v5.ownBlock ≠ some i ∧ W.heap.size ≤ i := fun i hi => by
          have h1 := HF.out i hi
          exact ⟨h1.2.2.1, h1.2.1, fun e => by have := HV5.out i e; have := HOL.out i hi; omega, h1.2.2.2⟩
        have HK6 : Hid (Keeps (fun i => (Value.slice a2 (catB (bs.take k)).length c2).ownBlock = some i) w5 w6) := Lib.hid ((Keeps.refl _ w5).grown hgrow (fun i hi => Or.inl hi))
        have HT6 := Lib.hid (HT5.out.same (HK6.out.block tb HT5.out.lt (fun e => (hrow tb e).1 rfl)))
        have HH6 : Hid (HashAt w6 p tb (catB (bs.take (k + 1))) v5) := Lib.hid (HH5.out.keep HK6.out (fun e => (hrow p e).2.1 rfl) (fun g' hg' e => (hrow g' e).2.2.1 hg'))
        have HB6 : Hid (Below W.heap.size W w6) := Lib.hid (((Keeps.of_below (S := fun _ => False) HB5.out).trans HK6.out (fun i h => Or.inr (hrow i h).2.2.2)).below (Nat.le_refl _) (fun _ h => h.elim))
        have HF6 : Hid (∀ g, (Value.slice ao6 (catB (bs.take (k + 1))).length cap6).ownBlock = some g → v5.ownBlock ≠ some g ∧ g ≠ p ∧ g ≠ tb ∧ W.heap.size ≤ g) := Lib.hid (fun g hg => by
          rcases hat' g hg with h | h
          · have h1 := hrow g h
            exact ⟨h1.2.2.1, h1.2.1, h1.1, h1.2.2.2⟩
          · have := HPL.out
            have := HS5.out
            exact ⟨fun e => by have := HH5.out.lt.2 g e; omega, by omega, by omega, by omega⟩)
        have HV6 : Hid (∀ g, v5.ownBlock = some g → W.heap.size ≤ g) := Lib.hid (fun g hg => Nat.le_trans HPL.out.2.2 (HV5.out g hg))
        clear hown hgrow hat hnn hat' hrow hcell5
        rw [← HCL.out]
        clear HWR
        have HNL2 := Lib.hid (HTOT.out (k + 1))
        generalize hcat : catB (bs.take (k + 1)) = cat at *
        have HCAT := Lib.hid hcat
        clear hcat
        have hwk : wrap64 ((k : Int) + 1) = (k : Int) + 1 := by have := HNL.out; unfold wrap64; omega
        have hke : ((k + 1 : Nat) : Int) = (k : Int) + 1 := by omega
        cases hq : ((k : Int) % 7 == 0)
        · go_wp2_with fail
          refine ⟨⟨k + 1, v5, ao6, cap6, by omega, by rw [hwk, hke], by rw [HCAT.out], HT6.out, by rw [HCAT.out]; exact HH6.out, HB6.out, by rw [HCAT.out]; exact HO6.out, by rw [HCAT.out]; exact HF6.out, HV6.out⟩, ?_⟩
          rw [hwk]
          simp only [intOf]
          omega
        · have HSM := Lib.hid (shaSum_any p tb v5 cat w6 HT6.out HH6.out (by have := HNL2.out; omega))
          have HSL := Lib.hid (shaF_len cat)
          go_wp2_with fail
          refine HSM.out.mono ?_
          rintro e w7 ⟨g1, c1, rfl, ht7, ho7, hl7, hk7, hg7⟩
          have HT7 := Lib.hid ht7
          have HH7 : Hid (HashAt w7 p tb cat v5) := Lib.hid (HH6.out.keep hk7 HH6.out.2.2.2.2.1 (fun g' hg' e => HH6.out.2.2.2.1 (by rw [hg', e])))
          have HO7 : Hid (w7.ownsRow 0 5 1 (.slice ao6 cat.length cap6) cat.length (cat.map (Value.int .u8))) := Lib.hid (ownsRow_same HO6.out (fun g' hg' => hk7.block g' (HO6.out.lt g' hg').2 (HF6.out g' hg').2.2.1))
          have HI7 := Lib.hid (owns_at ho7).2.1
          have HB7 : Hid (Below W.heap.size W w7) := Lib.hid (below_keeps HB6.out hk7 HLT.out)
          clear ht7 ho7 hl7 hk7 hg7
          have HRH := Lib.hid (rhash_any ao6 cat cat.length cap6 w7 rfl (owns_at HO7.out).2.1 HH6.out.2.2.2.2.2 (by have := HNL2.out; omega))
          go_wp2_with fail
          refine HRH.out.mono ?_
          rintro e w8 ⟨ao8, c8, rfl, ho8, hb8, hf8⟩
          have HE := Lib.hid (bytes_eq (some ⟨g1, 0, none⟩) ao8 (shaF cat) (shaF cat) 32 (shaF cat).length c1 c8 w8 HSL.out rfl (ints_below HI7.out hb8) (owns_at ho8).2.1 (shaF_inB _) (shaF_inB _))
          have HT8 := Lib.hid (HT7.out.below hb8)
          have HH8 : Hid (HashAt w8 p tb cat v5) := Lib.hid (HH7.out.keep (S := fun _ => False) (Keeps.of_below hb8) (fun h => h) (fun _ _ h => h))
          have HO8 : Hid (w8.ownsRow 0 5 1 (.slice ao6 cat.length cap6) cat.length (cat.map (Value.int .u8))) := Lib.hid (ownsRow_same HO7.out (fun g' hg' => hb8.block g' (HO7.out.lt g' hg').2))
          have HB8 : Hid (Below W.heap.size W w8) := Lib.hid (below_step HB7.out hb8)
          clear ho8 hb8 hf8
          go_wp2_with fail
          refine HE.out.mono ?_
          rintro e w9 ⟨rfl, rfl⟩
          rw [eqB_self]
          go_wp2_with fail
          refine ⟨⟨k + 1, v5, ao6, cap6, by omega, by rw [hwk, hke], by rw [HCAT.out], HT8.out, by rw [HCAT.out]; exact HH8.out, HB8.out, by rw [HCAT.out]; exact HO8.out, by rw [HCAT.out]; exact HF6.out, HV6.out⟩, ?_⟩
          rw [hwk]
          simp only [intOf]
          omega
      · obtain rfl : k = n := by omega
        have HNL2 := Lib.hid (HTOT.out k)
        have HCB0 := Lib.hid (catB_inB (w := W) (bs.take k) (fun x hx => HBL.out.2 x (List.mem_of_mem_take hx)))
        generalize hcat : catB (bs.take k) = cat at *
        clear hcat
        have HSL := Lib.hid (shaF_len cat)
        go_wp2_with fail
        refine (first2_any wr).mono ?_
        rintro e w5 ⟨rfl, hb5⟩
        have HT5 := Lib.hid (HT.out.below hb5)
        have HH5 : Hid (HashAt w5 p tb cat v) := Lib.hid (HH.out.keep (S := fun _ => False) (Keeps.of_below hb5) (fun h => h) (fun _ _ h => h))
        have HO5 : Hid (w5.ownsRow 0 5 1 (.slice a2 cat.length c2) cat.length (cat.map (Value.int .u8))) := Lib.hid (ownsRow_same HO.out (fun g' hg' => hb5.block g' (HO.out.lt g' hg').2))
        have HB5 : Hid (Below W.heap.size W w5) := Lib.hid (below_step HBR.out hb5)
        clear hb5
        have HSM := Lib.hid (shaSum_any p tb v cat w5 HT5.out HH5.out (by have := HNL2.out; omega))
        go_wp2_with fail
        refine HSM.out.mono ?_
        rintro e w7 ⟨g1, c1, rfl, ht7, ho7, hl7, hk7, hg7⟩
        have HT7 := Lib.hid ht7
        have HH7 : Hid (HashAt w7 p tb cat v) := Lib.hid (HH5.out.keep hk7 HH5.out.2.2.2.2.1 (fun g' hg' e => HH5.out.2.2.2.1 (by rw [hg', e])))
        have HO7 : Hid (w7.ownsRow 0 5 1 (.slice a2 cat.length c2) cat.length (cat.map (Value.int .u8))) := Lib.hid (ownsRow_same HO5.out (fun g' hg' => hk7.block g' (HO5.out.lt g' hg').2 (HF.out g' hg').2.2.1))
        have HI7 := Lib.hid (owns_at ho7).2.1
        have HB7 : Hid (Below W.heap.size W w7) := Lib.hid (below_keeps HB5.out hk7 HLT.out)
        clear ht7 ho7 hl7 hk7 hg7
        have HRH := Lib.hid (rhash_any a2 cat cat.length c2 w7 rfl (owns_at HO7.out).2.1 HCB0.out (by have := HNL2.out; omega))
        go_wp2_with fail
        refine HRH.out.mono ?_
        rintro e w8 ⟨ao8, c8, rfl, ho8, hb8, hf8⟩
        have HE := Lib.hid (bytes_eq (some ⟨g1, 0, none⟩) ao8 (shaF cat) (shaF cat) 32 (shaF cat).length c1 c8 w8 HSL.out rfl (ints_below HI7.out hb8) (owns_at ho8).2.1 (shaF_inB _) (shaF_inB _))
        have HT8 := Lib.hid (HT7.out.below hb8)
        have HH8 : Hid (HashAt w8 p tb cat v) := Lib.hid (HH7.out.keep (S := fun _ => False) (Keeps.of_below hb8) (fun h => h) (fun _ _ h => h))
        have HO8 : Hid (w8.ownsRow 0 5 1 (.slice a2 cat.length c2) cat.length (cat.map (Value.int .u8))) := Lib.hid (ownsRow_same HO7.out (fun g' hg' => hb8.block g' (HO7.out.lt g' hg').2))
        have HB8 : Hid (Below W.heap.size W w8) := Lib.hid (below_step HB7.out hb8)
        clear ho8 hb8 hf8
        go_wp2_with fail
        refine HE.out.mono ?_
        rintro e w9 ⟨rfl, rfl⟩
        rw [eqB_self]
        have HSM2 := Lib.hid (shaSum_any p tb v cat w8 HT8.out HH8.out (by have := HNL2.out; omega))
        go_wp2_with fail
        refine HSM2.out.mono ?_
        rintro e w10 ⟨g2, c3, rfl, ht10, ho10, hl10, hk10, hg10⟩
        have HO10 : Hid (w10.ownsRow 0 5 1 (.slice a2 cat.length c2) cat.length (cat.map (Value.int .u8))) := Lib.hid (ownsRow_same HO8.out (fun g' hg' => hk10.block g' (HO8.out.lt g' hg').2 (HF.out g' hg').2.2.1))
        have HI10 := Lib.hid (owns_at ho10).2.1
        have HG10 : Hid (g2 ≠ tb) := Lib.hid (by have := HT8.out.lt; omega)
        have HB10 : Hid (Below W.heap.size W w10) := Lib.hid (below_keeps HB8.out hk10 HLT.out)
        have HON := Lib.hid (one_any tb a2 cat cat.length c2 w10 ht10 rfl (owns_at HO10.out).2.1 HCB0.out (Or.inr (fun a ha => (HF.out a.block (by rw [ha]; rfl)).2.2.1)) (by have := HNL2.out; omega))
        clear ht10 ho10 hl10 hk10 hg10
        go_wp2_with fail
        refine HON.out.mono ?_
        rintro e w11 ⟨g3, c4, rfl, ht11, ho11, hl11, hk11, hg11⟩
        have HE2 := Lib.hid (bytes_eq (some ⟨g2, 0, none⟩) (some ⟨g3, 0, none⟩) (shaF cat) (shaF cat) 32 32 c3 c4 w11 HSL.out HSL.out (HI10.out.same (fun a ha hl => hk11.block a.block hl (by cases ha; exact HG10.out))) (owns_at ho11).2.1 (shaF_inB _) (shaF_inB _))
        have HB11 : Hid (Below W.heap.size W w11) := Lib.hid (below_keeps HB10.out hk11 HLT.out)
        clear ht11 ho11 hl11 hk11 hg11
        go_wp2_with fail
        refine HE2.out.mono ?_
        rintro e w12 ⟨rfl, rfl⟩
        rw [eqB_self]
        go_wp2
        go_ret
        exact ⟨rfl, HB11.out⟩

end Go.Proofs.Ythncpbihnhpacaa
