/- Package mac: Key; the reference's Mac and Key. -/
import Derived.Test.YteabnagdfecleaaMac2
namespace Go.Proofs.Yteabnagdfecleaa
open Go.RowKit
set_option linter.unusedVariables false
set_option linter.unusedSimpArgs false

/-- Two bytes of two numbers. -/
def keyB (a b : Int) : List Int := [a % 256, b % 256]
theorem keyB_inB (a b : Int) : InB (keyB a b) := fun z hz => by
  unfold keyB at hz
  simp only [List.mem_cons, List.not_mem_nil, or_false] at hz
  omega


theorem macK_le (zs : List Int) : (macK zs).length ≤ 64 := by
  unfold macK
  split
  · rw [shaF_len]; omega
  · omega
theorem padB_take (K : List Int) (c : Int) (k : Nat) (h : k < 64) : (padB K c).take (k + 1) = (padB K c).take k ++ [xorB (K.getD k 0) c] := by
  rw [List.take_succ_eq_append_getElem (by rw [padB_len]; exact h)]
  simp [padB]

set_option maxRecDepth 100000 in
set_option maxHeartbeats 2000000 in
theorem rmac_any (ao : Option Addr) (zs : List Int) (n cap : Nat) (bo : Option Addr) (ys : List Int) (m d : Nat) (w : World) (hn : zs.length = n) (hz : IntsAt .u8 w ao zs) (hB : InB zs) (hlen : n ≤ 1099511627776)
    (hm : ys.length = m) (hy : IntsAt .u8 w bo ys) (hC : InB ys) (hlen2 : m ≤ 1000000000) :
    Calls Try.prog 46 #[.slice ao n cap, .slice bo m d] w fun e w' => RowPost w (macF zs ys) e w' := by
  have HN := Lib.hid hn
  have HZ := Lib.hid hz
  have HB := Lib.hid hB
  have HM := Lib.hid hm
  have HY := Lib.hid hy
  have HC := Lib.hid hC
  have HL2 := Lib.hid hlen2
  have HRH := Lib.hid (rhash_any ao zs n cap w hn hz hB hlen)
  have HKB := Lib.hid (macK_inB hB)
  have HKE : Hid (macK zs = if 64 < n then shaF zs else zs) := Lib.hid (by unfold macK; rw [hn])
  clear hn hz hB hlen hm hy hC hlen2
  go_enter Try.func46, Try.ntmps46
  go_upto_if 11 with fail
  go_cut [0] (fun s wx => ∃ ao' k' c', s = .slice ao' k' c' ∧ (macK zs).length = k' ∧ IntsAt .u8 wx ao' (macK zs) ∧ Below w.heap.size w wx)
  case first =>
    by_cases hb : (64 : Int) < (n : Int)
    · have HE : Hid (macK zs = shaF zs) := Lib.hid (by rw [HKE.out, if_pos (by omega)])
      go_wp2_with fail
      refine HRH.out.mono ?_
      rintro e w1 ⟨ao1, c1, rfl, ho1, hb1, hf1⟩
      have HI1 := Lib.hid (owns_at ho1).2.1
      have HB1 := Lib.hid hb1
      clear ho1 hb1 hf1
      go_wp2_with fail
      go_meet
      case rel => exact ⟨_, _, _, rfl, by rw [HE.out], by rw [HE.out]; exact HI1.out, HB1.out⟩
    · have HE : Hid (macK zs = zs) := Lib.hid (by rw [HKE.out, if_neg (by omega)])
      go_wp2_with fail
      go_meet
      case rel => exact ⟨_, _, _, rfl, by rw [HE.out]; exact HN.out, by rw [HE.out]; exact HZ.out, Below.refl _ _⟩
  case rest =>
    obtain ⟨ko, kn, kc, rfl, hk, hi, hb⟩ := hcut
    rename World => w1
    obtain ⟨K, hK⟩ : ∃ K, K = macK zs := ⟨_, rfl⟩
    rw [← hK] at hk hi HKB
    have HKE := Lib.hid hK
    have HKN := Lib.hid hk
    have HI1 := Lib.hid hi
    have HB1 := Lib.hid hb
    have HK40 : Hid (kn ≤ 64) := Lib.hid (by have := macK_le zs; rw [← hK, hk] at this; exact this)
    clear hK hk hi hb HRH HN HZ HB
    go_wp2_with fail
    go_loopw [5, 6, 7, 8] (fun s5 s6 s7 s8 wr => ∃ (k : Nat) (ia : Option Addr) (ic : Nat) (oa : Option Addr) (oc : Nat), k ≤ 64 ∧ s7 = .int .i64 k ∧ s5 = .slice ia k ic ∧ s6 = .slice oa k oc ∧ wr.ownsRow 0 5 1 (.slice ia k ic) k (((padB K 54).take k).map (Value.int .u8)) ∧ wr.ownsRow 0 5 1 (.slice oa k oc) k (((padB K 92).take k).map (Value.int .u8)) ∧ (∀ g, (Value.slice ia k ic).ownBlock = some g → (Value.slice oa k oc).ownBlock ≠ some g ∧ w1.heap.size ≤ g) ∧ (∀ g, (Value.slice oa k oc).ownBlock = some g → w1.heap.size ≤ g) ∧ Below w1.heap.size w1 wr) (fun _ _ s7 _ _ => 64 - (intOf s7).toNat)
    case atStart => exact ⟨0, none, 0, none, 0, Nat.zero_le _, rfl, rfl, rfl, World.ownsRow_nil _ _ _ _, World.ownsRow_nil _ _ _ _, (fun g (hg : (Value.slice none 0 0).ownBlock = some g) => by cases hg), (fun g (hg : (Value.slice none 0 0).ownBlock = some g) => by cases hg), Below.refl _ _⟩
    case round =>
      obtain ⟨k, ia, ic, oa, oc, hk, rfl, rfl, rfl, hi, ho, hd, hf, hb⟩ := hrel
      have HIN := Lib.hid hi
      have HOU := Lib.hid ho
      have HD := Lib.hid hd
      have HF := Lib.hid hf
      have HBR := Lib.hid hb
      clear hi ho hd hf hb
      by_cases hlt : k < 64
      · have HPI := Lib.hid (padB_take K 54 k hlt)
        have HPO := Lib.hid (padB_take K 92 k hlt)
        have HXI := Lib.hid (xorB_in (K.getD k 0) 54)
        obtain ⟨z, hz⟩ : ∃ z, z = K.getD k 0 := ⟨_, rfl⟩
        rw [← hz] at HPI HPO
        have HZK := Lib.hid hz
        clear hz
        go_upto_if 21 with fail
        go_cut [8] (fun s wx => s = .int .u8 z ∧ wr = wx)
        case first =>
          by_cases hkl : (k : Int) < (kn : Int)
          · obtain ⟨b, off, rfl, cx⟩ : ∃ b off, ko = some ⟨b, off, none⟩ ∧ wr.cell? ⟨b, off + k, none⟩ = some (.int .u8 z) := by
              have hkk : k < K.length := by rw [HKN.out]; omega
              rcases (ints_below HI1.out HBR.out) with h | ⟨b, off, h1, h2⟩
              · rw [h] at hkk; simp at hkk
              · exact ⟨b, off, h1, by rw [HZK.out]; exact h2 k hkk⟩
            have b0 : (0 : Int) ≤ (k : Int) := by omega
            go_wp2_with fail
            go_meet
            case rel => exact ⟨rfl, rfl⟩
          · have HZ0 : Hid (z = 0) := Lib.hid (by rw [HZK.out]; simp [List.getD, List.getElem?_eq_none (show K.length ≤ k by rw [HKN.out]; omega)])
            go_wp2_with fail
            go_meet
            case rel => exact ⟨by rw [HZ0.out], rfl⟩
        case rest =>
          obtain ⟨rfl, rfl⟩ := hcut
          have hke : ((k + 1 : Nat) : Int) = (k : Int) + 1 := by omega
          obtain ⟨i0, hi, hz0, hz1, hz2⟩ := info_parts Try_infoU8
          go_wp2_with (at_builtin; refine wpList_append_any rfl _ _ 22 rfl 5 i0 (.int .u8 0) 1 1 Try.underlying22 hi hz0 hz1 hz2 rfl (by decide) (.slice ia k ic) k _ rfl (HIN.out.alloc _) (some ⟨wr.heap.size, 0, none⟩) 1 1 [.int .u8 (xorB z 54)] rfl (by rfl) (fun e => by cases e) (fun ad had => by cases had; exact World.news_of_block (heap_alloc_new _ _)) (by simp [Value.oneCell']) (by unfold maxLen; omega) (by omega) ?_)
          intro ao2 cap2 w2 hown hgrow hat hnn
          have HIN2 : Hid (w2.ownsRow 0 5 1 (.slice ao2 (k + 1) cap2) (k + 1) (((padB K 54).take (k + 1)).map (Value.int .u8))) := Lib.hid (by rw [HPI.out, List.map_append, List.map_take]; exact hown)
          have HK2 : Hid (Keeps (fun i => (Value.slice ia k ic).ownBlock = some i) wr w2) := Lib.hid (((Keeps.refl _ wr).alloc _).grown hgrow (fun i hi => Or.inl hi))
          have HA2 : Hid (∀ g, (Value.slice ao2 (k + 1) cap2).ownBlock = some g → (Value.slice ia k ic).ownBlock = some g ∨ wr.heap.size ≤ g) := Lib.hid (fun g hg => (hat g hg).imp id (fun h => by omega))
          have HOU2 : Hid (w2.ownsRow 0 5 1 (.slice oa k oc) k (((padB K 92).take k).map (Value.int .u8))) := Lib.hid (ownsRow_same HOU.out (fun g hg => HK2.out.block g (HOU.out.lt g hg).2 (fun e => (HD.out g e).1 hg)))
          clear hown hgrow hat hnn
          go_wp2_with (at_builtin; refine wpList_append_any rfl _ _ 22 rfl 5 i0 (.int .u8 0) 1 1 Try.underlying22 hi hz0 hz1 hz2 rfl (by decide) (.slice oa k oc) k _ rfl (HOU2.out.alloc _) (some ⟨w2.heap.size, 0, none⟩) 1 1 [.int .u8 (xorB z 92)] rfl (by rfl) (fun e => by cases e) (fun ad had => by cases had; exact World.news_of_block (heap_alloc_new _ _)) (by simp [Value.oneCell']) (by unfold maxLen; omega) (by omega) ?_)
          intro ao3 cap3 w3 hown hgrow hat hnn
          have HOU3 : Hid (w3.ownsRow 0 5 1 (.slice ao3 (k + 1) cap3) (k + 1) (((padB K 92).take (k + 1)).map (Value.int .u8))) := Lib.hid (by rw [HPO.out, List.map_append, List.map_take]; exact hown)
          have HK3 : Hid (Keeps (fun i => (Value.slice oa k oc).ownBlock = some i) w2 w3) := Lib.hid (((Keeps.refl _ w2).alloc _).grown hgrow (fun i hi => Or.inl hi))
          have HA3 : Hid (∀ g, (Value.slice ao3 (k + 1) cap3).ownBlock = some g → (Value.slice oa k oc).ownBlock = some g ∨ w2.heap.size ≤ g) := Lib.hid (fun g hg => (hat g hg).imp id (fun h => by omega))
          have HD2 : Hid (∀ g, (Value.slice ao2 (k + 1) cap2).ownBlock = some g → (Value.slice oa k oc).ownBlock ≠ some g) := Lib.hid (fun g hg e => by
            rcases HA2.out g hg with h | h
            · exact (HD.out g h).1 e
            · have := (HOU.out.lt g e).2; omega)
          have HIN3 : Hid (w3.ownsRow 0 5 1 (.slice ao2 (k + 1) cap2) (k + 1) (((padB K 54).take (k + 1)).map (Value.int .u8))) := Lib.hid (ownsRow_same HIN2.out (fun g hg => HK3.out.block g (HIN2.out.lt g hg).2 (fun e => HD2.out g hg e)))
          have HS := Lib.hid HBR.out.size
          have HD3 : Hid (∀ g, (Value.slice ao2 (k + 1) cap2).ownBlock = some g → (Value.slice ao3 (k + 1) cap3).ownBlock ≠ some g ∧ w1.heap.size ≤ g) := Lib.hid (fun g hg => by
            constructor
            · intro e
              rcases HA3.out g e with h | h
              · exact HD2.out g hg h
              · have := (HIN2.out.lt g hg).2; omega
            · rcases HA2.out g hg with h | h
              · exact (HD.out g h).2
              · have := HS.out; omega)
          have HF3 : Hid (∀ g, (Value.slice ao3 (k + 1) cap3).ownBlock = some g → w1.heap.size ≤ g) := Lib.hid (fun g hg => by
            rcases HA3.out g hg with h | h
            · exact HF.out g h
            · have := HS.out; have := HK2.out.size; omega)
          have HB3 : Hid (Below w1.heap.size w1 w3) := Lib.hid (below_fp (below_fp HBR.out HK2.out (fun i hi => (HD.out i hi).2)) HK3.out (fun i hi => HF.out i hi))
          clear hown hgrow hat hnn
          go_wp2_with fail
          refine ⟨⟨k + 1, ao2, cap2, ao3, cap3, by omega, by rw [hke], rfl, rfl, HIN3.out, HOU3.out, HD3.out, HF3.out, HB3.out⟩, ?_⟩
          simp only [intOf]
          omega
      · obtain rfl : k = 64 := by omega
        have HY1 := Lib.hid (ints_below (ints_below HY.out HB1.out) (HBR.out.mono (Nat.le_refl _)))
        have HPI : Hid ((padB K 54).take 64 = padB K 54) := Lib.hid (List.take_of_length_le (by rw [padB_len]; omega))
        have HPO : Hid ((padB K 92).take 64 = padB K 92) := Lib.hid (List.take_of_length_le (by rw [padB_len]; omega))
        rw [HPI.out] at HIN
        rw [HPO.out] at HOU
        obtain ⟨i0, hi, hz0, hz1, hz2⟩ := info_parts Try_infoU8
        go_wp2_with (at_builtin; refine wpList_append_any rfl _ _ 22 rfl 5 i0 (.int .u8 0) 1 1 Try.underlying22 hi hz0 hz1 hz2 rfl (by decide) (.slice ia 64 ic) 64 _ rfl HIN.out bo m d (ys.map (Value.int .u8)) rfl ?c1 ?c2 ?c3 (ints_one _ _) ?c5 ?c6 ?_)
        case c1 => simp [HM.out]
        case c2 => intro e; have := HY1.out; rw [e] at this; have h1 := ints_none this; have h2 := HM.out; omega
        case c3 => exact src_ints HY1.out
        case c5 => have := HL2.out; unfold maxLen; omega
        case c6 => have := HL2.out; omega
        intro ao5 cap5 w5 hown hgrow hat hnn
        rw [← List.map_append] at hown
        have HR5 := Lib.hid hown
        have HN5 : Hid ((padB K 54 ++ ys).length = 64 + m) := Lib.hid (by rw [List.length_append, padB_len, HM.out])
        have HK5 : Hid (Keeps (fun i => (Value.slice ia 64 ic).ownBlock = some i) wr w5) := Lib.hid ((Keeps.refl _ wr).grown hgrow (fun i hi => Or.inl hi))
        have HOU5 : Hid (w5.ownsRow 0 5 1 (.slice oa 64 oc) 64 ((padB K 92).map (Value.int .u8))) := Lib.hid (ownsRow_same HOU.out (fun g hg => HK5.out.block g (HOU.out.lt g hg).2 (fun e => (HD.out g e).1 hg)))
        have HB5 : Hid (Below w1.heap.size w1 w5) := Lib.hid (below_fp HBR.out HK5.out (fun i hi => (HD.out i hi).2))
        clear hown hgrow hat hnn
        have HRH := Lib.hid (rhash_any ao5 (padB K 54 ++ ys) (64 + m) cap5 w5 HN5.out (owns_at HR5.out).2.1 (inB_app (padB_inB _ _) HC.out) (by have := HL2.out; omega))
        go_wp2_with fail
        refine HRH.out.mono ?_
        rintro e w6 ⟨ao6, c6, rfl, ho6, hb6, hf6⟩
        have HSL := Lib.hid (shaF_len (padB K 54 ++ ys))
        have HSE := Lib.hid (shaF_inB (padB K 54 ++ ys))
        have HI6 := Lib.hid (owns_at ho6).2.1
        have HB6 : Hid (Below w1.heap.size w1 w6) := Lib.hid (below_step HB5.out hb6)
        have HOU6 : Hid (w6.ownsRow 0 5 1 (.slice oa 64 oc) 64 ((padB K 92).map (Value.int .u8))) := Lib.hid (ownsRow_same HOU5.out (fun g hg => hb6.block g (HOU5.out.lt g hg).2))
        obtain ⟨HS, hHS⟩ : ∃ HS, HS = shaF (padB K 54 ++ ys) := ⟨_, rfl⟩
        rw [← hHS] at HSL HI6 HSE ⊢
        have HHS := Lib.hid hHS
        clear ho6 hb6 hf6 HRH hHS
        rw [HSL.out]
        go_wp2_with (at_builtin; refine wpList_append_any rfl _ _ 22 rfl 5 i0 (.int .u8 0) 1 1 Try.underlying22 hi hz0 hz1 hz2 rfl (by decide) (.slice oa 64 oc) 64 _ rfl HOU6.out ao6 32 c6 (HS.map (Value.int .u8)) rfl ?c1 ?c2 ?c3 (ints_one _ _) ?c5 ?c6 ?_)
        case c1 => simp [HSL.out]
        case c2 => intro e; have := HI6.out; rw [e] at this; have h1 := ints_none this; have h2 := HSL.out; omega
        case c3 => exact src_ints HI6.out
        case c5 => unfold maxLen; omega
        case c6 => omega
        intro ao7 cap7 w7 hown hgrow hat hnn
        rw [← List.map_append] at hown
        have HR7 := Lib.hid hown
        have HN7 : Hid ((padB K 92 ++ HS).length = 96) := Lib.hid (by rw [List.length_append, padB_len, HSL.out])
        have HB7 : Hid (Below w1.heap.size w1 w7) := Lib.hid (below_fp HB6.out ((Keeps.refl (fun i => (Value.slice oa 64 oc).ownBlock = some i) w6).grown hgrow (fun i hi => Or.inl hi)) (fun i hi => HF.out i hi))
        clear hown hgrow hat hnn
        have HRH := Lib.hid (rhash_any ao7 (padB K 92 ++ HS) 96 cap7 w7 HN7.out (owns_at HR7.out).2.1 (inB_app (padB_inB _ _) HSE.out) (by omega))
        go_wp2_with fail
        refine HRH.out.mono ?_
        rintro e w8 ⟨ao8, c8, rfl, ho8, hb8, hf8⟩
        have HP : Hid (RowPost w (macF zs ys) (.returned (.slice ao8 (shaF (padB K 92 ++ HS)).length c8)) w8) := Lib.hid (by
          have e : macF zs ys = shaF (padB K 92 ++ HS) := by unfold macF; rw [HHS.out, HKE.out]
          rw [e]
          exact ⟨ao8, c8, rfl, ho8, below_step (below_step HB1.out HB7.out) hb8, fun g hg => by have := hf8 g hg; have := HB7.out.size; have := HB1.out.size; omega⟩)
        clear ho8 hb8 hf8
        go_wp2
        go_ret
        exact HP.out


end Go.Proofs.Yteabnagdfecleaa
