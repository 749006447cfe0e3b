/- Package frame: text. -/
import Derived.Test.YteabnagdfecleaaFr1
namespace Go.Proofs.Yteabnagdfecleaa
open Go.RowKit
set_option linter.unusedVariables false
set_option linter.unusedSimpArgs false

/-- What a call with a table hands back as a row: with an error. -/
def RowT (w : World) (tb : Nat) (zs : List Int) (v : Value) (w' : World) : Prop := TabOk w' tb ∧ w'.ownsRow 0 5 1 v zs.length (zs.map (Value.int .u8)) ∧ Keeps (fun i => i = tb) w w' ∧ (∀ g, v.ownBlock = some g → w.heap.size ≤ g)

set_option maxRecDepth 100000 in
set_option maxHeartbeats 2000000 in
theorem text_any (tb : Nat) (F : FR) (ao : Option Addr) (m c : Nat) (w : World) (ht : TabOk w tb) (hF : F.ok) (hm : F.b.length = m) (hl : m ≤ 60000) (hz : IntsAt .u8 w ao F.b) (hB : InB F.b) (hd : F.b = [] ∨ ∀ a, ao = some a → a.block ≠ tb) :
    Calls Try.prog 31 #[.pointer (some ⟨tb, 0, none⟩), .agg #[.int .i64 F.k, .int .i64 F.g, .int .i64 F.s, .slice ao m c]] w fun e w' => ∃ a2 c2, e = .returned (.slice a2 (textF F).length c2) ∧ RowT w tb (textF F) (.slice a2 (textF F).length c2) w' := by
  have HT := Lib.hid ht
  have HTL := Lib.hid ht.lt
  have HM := Lib.hid hm
  have HL := Lib.hid hl
  have HZ := Lib.hid hz
  have HB := Lib.hid hB
  have HD := Lib.hid hd
  have HHL := Lib.hid (headF_len F)
  have HHB := Lib.hid (headF_inB F)
  have HTE : Hid (textF F = headF F ++ (shaF (headF F ++ F.b)).take 8 ++ F.b) := Lib.hid rfl
  obtain ⟨w1, hw1⟩ : ∃ w1, w1 = w.alloc (.cells #[.int .i64 F.k, .int .i64 F.g, .int .i64 F.s, .slice ao m c] 24) := ⟨_, rfl⟩
  have HX1 : Hid (BoxF w1 w.heap.size F ao m c) := Lib.hid (by rw [hw1]; exact heap_alloc_new _ _)
  have HB1 : Hid (Below w.heap.size w w1) := Lib.hid (by rw [hw1]; exact (Below.refl _ _).alloc (Nat.le_refl _) _)
  have HW1 := Lib.hid hw1
  have HST := Lib.hid (starts_any2 F ao m c w1 hF hm hl)
  clear ht hF hm hl hz hB hd hw1
  go_enter Try.func31, Try.ntmps31
  go_wp2_with fail
  rw [← HW1.out]
  refine HST.out.mono ?_
  rintro e w2 ⟨ao2, c2, rfl, ho2, hb2, hf2⟩
  rw [HHL.out] at ho2 hf2 ⊢
  have HO2 := Lib.hid ho2
  have HF2 := Lib.hid hf2
  have HX2 := Lib.hid (HX1.out.below hb2)
  have HT2 := Lib.hid ((HT.out.below HB1.out).below hb2)
  have HB2 : Hid (Below w.heap.size w w2) := Lib.hid (below_step HB1.out hb2)
  have HZ2 := Lib.hid (ints_below HZ.out HB2.out)
  have HL1 : Hid (w.heap.size < w1.heap.size ∧ w1.heap.size ≤ w2.heap.size) := Lib.hid ⟨blk_lt HX1.out, hb2.size⟩
  clear ho2 hf2 hb2 HX1 HW1
  go_wp2_with fail
  refine (new_any tb w2 HT2.out).mono ?_
  rintro e w3 ⟨rfl, ht3, hh3, hk3⟩
  have HT3 := Lib.hid ht3
  have HH3 := Lib.hid hh3
  have HX3 := Lib.hid (HX2.out.keep hk3 (by have := HTL.out; omega))
  have HO3 : Hid (w3.ownsRow 0 5 1 (.slice ao2 16 c2) 16 ((headF F).map (Value.int .u8))) := Lib.hid (ownsRow_same HO2.out (fun g hg => hk3.block g (HO2.out.lt g hg).2 (by have := HF2.out g hg; have := HTL.out; have := HL1.out; omega)))
  have HOL : Hid (∀ g, (Value.slice ao2 16 c2).ownBlock = some g → g < w2.heap.size) := Lib.hid (fun g hg => (HO2.out.lt g hg).2)
  have HK3 : Hid (Keeps (fun i => i = tb) w w3) := Lib.hid ((Keeps.of_below HB2.out).trans hk3 (fun i h => Or.inl h))
  have HP3 := Lib.hid hh3.lt.1
  have HZ3 : Hid (IntsAt .u8 w3 ao F.b) := Lib.hid (by
    rcases HD.out with h | h
    · exact Or.inl h
    · exact HZ2.out.same (fun a ha hl => hk3.block a.block hl (h a ha)))
  have HPS : Hid (w.heap.size < w2.heap.size) := Lib.hid (by have := HL1.out; omega)
  generalize w2.heap.size = p at *
  clear ht3 hh3 hk3 HX2 HT2 HZ2 HO2
  have HWR := Lib.hid (write_any p tb _ [] w3 HT3.out HH3.out ao2 (headF F) 16 c2 HHL.out (owns_at HO3.out).2.1 HHB.out (Or.inr (fun a ha e => by have := HOL.out a.block (by rw [ha]; rfl); omega)) (by simp))
  go_wp2_with fail
  refine HWR.out.mono ?_
  rintro e w4 ⟨rfl, v4, ht4, hh4, hk4, hf4⟩
  rw [List.nil_append] at hh4
  have hk4 : Keeps (fun i => i = tb ∨ i = p) w3 w4 := hk4.mono (fun i _ h => by
    rcases h with h | h | h
    · exact Or.inl h
    · exact Or.inr h
    · cases h)
  have HT4 := Lib.hid ht4
  have HH4 := Lib.hid hh4
  have HX4 := Lib.hid (HX3.out.keep hk4 (by have := HTL.out; have := HPS.out; omega))
  have HO4 : Hid (w4.ownsRow 0 5 1 (.slice ao2 16 c2) 16 ((headF F).map (Value.int .u8))) := Lib.hid (ownsRow_same HO3.out (fun g hg => hk4.block g (HO3.out.lt g hg).2 (by have := HF2.out g hg; have := HTL.out; have := HL1.out; have := HOL.out g hg; omega)))
  have HK4 : Hid (Keeps (fun i => i = tb) w w4) := Lib.hid (HK3.out.trans hk4 (fun i h => by have := HPS.out; omega))
  have HZ4 : Hid (IntsAt .u8 w4 ao F.b) := Lib.hid (by
    rcases HD.out with h | h
    · exact Or.inl h
    · exact HZ.out.same (fun a ha hl => HK4.out.block a.block hl (h a ha)))
  have HF4 : Hid (∀ g, v4.ownBlock = some g → p < g) := Lib.hid (fun g hg => by have := hf4 g hg; have := HP3.out; omega)
  clear ht4 hh4 hk4 hf4 HWR HT3 HH3 HX3 HO3 HK3 HZ3
  obtain ⟨_, _, _, cb⟩ := HX4.out.cells
  have HWR := Lib.hid (write_any p tb v4 (headF F) w4 HT4.out HH4.out ao F.b m c HM.out HZ4.out HB.out (HZ.out.far (by have := HPS.out; omega)) (by have := HHL.out; have := HL.out; omega))
  go_wp2_with fail
  refine HWR.out.mono ?_
  rintro e w5 ⟨rfl, v5, ht5, hh5, hk5, hf5⟩
  have hfp : ∀ i, fpH p tb v4 i → i = tb ∨ p ≤ i := fun i hi => by
    rcases hi with h | h | h
    · exact Or.inl h
    · exact Or.inr (by omega)
    · exact Or.inr (Nat.le_of_lt (HF4.out i h))
  have HX5 := Lib.hid (HX4.out.keep hk5 (fun e => by have := hfp _ e; have := HTL.out; have := HPS.out; omega))
  have HO5 : Hid (w5.ownsRow 0 5 1 (.slice ao2 16 c2) 16 ((headF F).map (Value.int .u8))) := Lib.hid (ownsRow_same HO4.out (fun g hg => hk5.block g (HO4.out.lt g hg).2 (fun e => by have := hfp _ e; have := HF2.out g hg; have := HTL.out; have := HL1.out; have := HOL.out g hg; omega)))
  have HK5 : Hid (Keeps (fun i => i = tb) w w5) := Lib.hid (HK4.out.trans hk5 (fun i h => by have := hfp _ h; have := HPS.out; omega))
  have HSM := Lib.hid (shaSum_any p tb v5 (headF F ++ F.b) w5 ht5 hh5 (by have := HHL.out; have := HL.out; have := HM.out; rw [List.length_append]; omega))
  clear ht5 hh5 hk5 hf5 hfp HWR HT4 HH4 HX4 HO4 HK4 HZ4 cb
  go_wp2_with fail
  refine HSM.out.mono ?_
  rintro e w6 ⟨g6, c6, rfl, ht6, ho6, hl6, hk6, hg6⟩
  have HT6 := Lib.hid ht6
  have HI6 := Lib.hid ((owns_at ho6).2.1.take 8)
  have HC6 := Lib.hid (owns_at ho6).2.2.1
  have HX6 := Lib.hid (HX5.out.keep hk6 (by have := HTL.out; omega))
  have HO6 : Hid (w6.ownsRow 0 5 1 (.slice ao2 16 c2) 16 ((headF F).map (Value.int .u8))) := Lib.hid (ownsRow_same HO5.out (fun g hg => hk6.block g (HO5.out.lt g hg).2 (by have := HF2.out g hg; have := HTL.out; have := HL1.out; omega)))
  have HK6 : Hid (Keeps (fun i => i = tb) w w6) := Lib.hid (HK5.out.trans hk6 (fun i h => Or.inl h))
  have HS8 : Hid (((shaF (headF F ++ F.b)).take 8).length = 8) := Lib.hid (by rw [List.length_take, shaF_len]; rfl)
  clear ht6 ho6 hl6 hk6 hg6 HSM HX5 HO5 HK5
  obtain ⟨S8, hS8⟩ : ∃ S8, S8 = (shaF (headF F ++ F.b)).take 8 := ⟨_, rfl⟩
  rw [← hS8] at HI6 HS8 HTE
  obtain ⟨HH, hHH⟩ : ∃ HH, HH = headF F := ⟨_, rfl⟩
  rw [← hHH] at HO6 HTE HHL
  clear hS8 hHH
  have b8 : 8 ≤ c6 := by have := HC6.out; omega
  have b8' : (8 : Int) ≤ (c6 : Int) := by omega
  obtain ⟨i0, hi, hz0, hz1, hz2⟩ := info_parts Try_infoU8
  go_wp2_with (at_builtin; refine wpList_append_any rfl _ _ 22 rfl 5 i0 (.int .u8 0) 1 1 Try.underlying22 hi hz0 hz1 hz2 rfl (by decide) (.slice ao2 16 c2) 16 _ rfl HO6.out (some ⟨g6, 0, none⟩) 8 c6 (S8.map (Value.int .u8)) rfl ?c1 ?c2 ?c3 (ints_one _ _) ?c5 ?c6 ?_)
  case c1 => simp [HS8.out]
  case c2 => intro e; cases e
  case c3 => exact src_ints HI6.out
  case c5 => unfold maxLen; omega
  case c6 => omega
  intro ao7 cap7 w7 hown hgrow hat hnn
  rw [← List.map_append] at hown
  have HR7 := Lib.hid hown
  have HK7 : Hid (Keeps (fun i => (Value.slice ao2 16 c2).ownBlock = some i) w6 w7) := Lib.hid ((Keeps.refl _ w6).grown hgrow (fun i hi => Or.inl hi))
  have HT7 := Lib.hid (tab_keep HT6.out HK7.out (fun e => by have := HF2.out tb e; have := HTL.out; have := HL1.out; omega))
  have HX7 := Lib.hid (HX6.out.keep HK7.out (fun e => by have := HF2.out _ e; have := HL1.out; omega))
  have HT67 : Hid (Keeps (fun i => i = tb) w w7) := Lib.hid (HK6.out.trans HK7.out (fun i hi => by have := HF2.out i hi; have := HL1.out; exact Or.inr (by omega)))
  have HF7 : Hid (∀ g, (Value.slice ao7 24 cap7).ownBlock = some g → w.heap.size ≤ g) := Lib.hid (fun g hg => by
    rcases hat g hg with h | h
    · have := HF2.out g h; have := HL1.out; omega
    · have := HK6.out.size; omega)
  have HZ7 : Hid (IntsAt .u8 w7 ao F.b) := Lib.hid (by
    rcases HD.out with h | h
    · exact Or.inl h
    · exact HZ.out.same (fun a ha hl => HT67.out.block a.block hl (h a ha)))
  clear hown hgrow hat hnn HT6 HI6 HX6 HO6 HK6
  obtain ⟨_, _, _, cb⟩ := HX7.out.cells
  go_wp2_with (at_builtin; refine wpList_append_any rfl _ _ 22 rfl 5 i0 (.int .u8 0) 1 1 Try.underlying22 hi hz0 hz1 hz2 rfl (by decide) (.slice ao7 24 cap7) 24 _ rfl HR7.out ao m c (F.b.map (Value.int .u8)) rfl ?c1 ?c2 ?c3 (ints_one _ _) ?c5 ?c6 ?_)
  case c1 => simp [HM.out]
  case c2 => intro e; have := HZ7.out; rw [e] at this; have h1 := ints_none this; have := HM.out; omega
  case c3 => exact src_ints HZ7.out
  case c5 => have := HL.out; unfold maxLen; omega
  case c6 => have := HL.out; omega
  intro ao8 cap8 w8 hown hgrow hat hnn
  rw [← List.map_append] at hown
  have HTN : Hid ((textF F).length = 24 + m) := Lib.hid (by rw [textF_len, HM.out])
  have HP : Hid (RowT w tb (textF F) (.slice ao8 (textF F).length cap8) w8) := Lib.hid (by
    have hk8 : Keeps (fun i => (Value.slice ao7 24 cap7).ownBlock = some i) w7 w8 := (Keeps.refl _ w7).grown hgrow (fun i hi => Or.inl hi)
    refine ⟨tab_keep HT7.out hk8 (fun e => by have := HF7.out tb e; have := HTL.out; omega), ?_, HT67.out.trans hk8 (fun i hi => Or.inr (HF7.out i hi)), ?_⟩
    · rw [HTN.out, HTE.out, List.append_assoc, List.map_append]
      exact hown
    · rw [HTN.out]
      intro g hg
      rcases hat g hg with h | h
      · exact HF7.out g h
      · have := HT67.out.size; omega)
  clear hown hgrow hat hnn
  rw [← HTN.out]
  go_wp2
  go_ret
  exact ⟨ao8, cap8, rfl, HP.out⟩

end Go.Proofs.Yteabnagdfecleaa
