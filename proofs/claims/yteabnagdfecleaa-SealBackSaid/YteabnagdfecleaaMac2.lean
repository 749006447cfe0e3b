/- Package mac: a text that gets a tag: New, Write, Sum, One. -/
import Derived.Test.YteabnagdfecleaaMac1
namespace Go.Proofs.Yteabnagdfecleaa
open Go.RowKit
set_option linter.unusedVariables false
set_option linter.unusedSimpArgs false

/-- A tag under way in block q: its hash in p, its outer key in g; begun in w0. -/
structure MacAt (w0 w : World) (q p g tb : Nat) (key all : List Int) (v : Value) : Prop where
  tab : TabOk w tb
  blk : w.heap[q]? = some (.cells #[.pointer (some ⟨tb, 0, none⟩), .slice (some ⟨g, 0, none⟩) 64 64, .pointer (some ⟨p, 0, none⟩)] 126 (0, 0))
  row : RowL w g (padB (macK key) 92)
  hash : HashAt w p tb (padB (macK key) 54 ++ all) v
  size : w0.heap.size ≤ w.heap.size
  tl : tb < w0.heap.size
  ql : w0.heap.size ≤ q
  pl : w0.heap.size ≤ p
  gl : w0.heap.size ≤ g
  vl : ∀ b, v.ownBlock = some b → w0.heap.size ≤ b ∧ b ≠ q ∧ b ≠ g
  d1 : q ≠ p
  d2 : q ≠ g
  d3 : p ≠ g
section
variable {w0 w w' : World} {q p g tb : Nat} {key all : List Int} {v : Value}
theorem MacAt.cells (h : MacAt w0 w q p g tb key all v) : w.cell? ⟨q, 0, none⟩ = some (.pointer (some ⟨tb, 0, none⟩)) ∧ w.cell? ⟨q, 1, none⟩ = some (.slice (some ⟨g, 0, none⟩) 64 64) ∧ w.cell? ⟨q, 2, none⟩ = some (.pointer (some ⟨p, 0, none⟩)) :=
  ⟨blk_cell h.blk 0, blk_cell h.blk 1, blk_cell h.blk 2⟩
/-- What turns elsewhere does not matter. -/
theorem MacAt.far (h : MacAt w0 w q p g tb key all v) {S : Nat → Prop} (hk : Keeps S w w') (ht : TabOk w' tb) (hq : ¬ S q) (hp : ¬ S p) (hg : ¬ S g) (hv : ∀ b, v.ownBlock = some b → ¬ S b) : MacAt w0 w' q p g tb key all v :=
  ⟨ht, (hk.block q (blk_lt h.blk) hq).trans h.blk, h.row.same (hk.block g h.row.lt hg), h.hash.keep hk hp hv, Nat.le_trans h.size hk.size, h.tl, h.ql, h.pl, h.gl, h.vl, h.d1, h.d2, h.d3⟩
theorem MacAt.step (h : MacAt w0 w q p g tb key all v) {S : Nat → Prop} (hk : Keeps S w w') (ht : TabOk w' tb) (hS : ∀ i, S i → i = tb ∨ w.heap.size ≤ i) : MacAt w0 w' q p g tb key all v := by
  have a1 := h.tl; have a2 := h.ql; have a3 := h.pl; have a4 := h.gl
  have b1 := blk_lt h.blk; have b2 := h.row.lt; have b3 := h.hash.lt.1
  refine h.far hk ht (fun e => by have := hS q e; omega) (fun e => by have := hS p e; omega) (fun e => by have := hS g e; omega) (fun b hb e => ?_)
  have := hS b e
  have := (h.vl b hb).1
  have := h.hash.lt.2 b hb
  omega
theorem MacAt.below (h : MacAt w0 w q p g tb key all v) (hb : Below w.heap.size w w') : MacAt w0 w' q p g tb key all v :=
  h.step (S := fun _ => False) (Keeps.of_below hb) (h.tab.below hb) (fun _ h => h.elim)
end

set_option maxRecDepth 100000 in
set_option maxHeartbeats 2000000 in
theorem macNew_any (tb : Nat) (ao : Option Addr) (zs : List Int) (n cap : Nat) (w : World) (ht : TabOk w tb) (hn : zs.length = n) (hz : IntsAt .u8 w ao zs) (hB : InB zs) (hd : zs = [] ∨ ∀ a, ao = some a → a.block ≠ tb) (hlen : n ≤ 1099511627776) :
    Calls Try.prog 59 #[.pointer (some ⟨tb, 0, none⟩), .slice ao n cap] w fun e w' => ∃ q p g v, e = .returned (.pointer (some ⟨q, 0, none⟩)) ∧ MacAt w w' q p g tb zs [] v ∧ Keeps (fun i => i = tb) w w' := by
  have HT := Lib.hid ht
  have HN := Lib.hid hn
  have HZ := Lib.hid hz
  have HB := Lib.hid hB
  have HD := Lib.hid hd
  have HL := Lib.hid hlen
  have HTL := Lib.hid ht.lt
  have HON := Lib.hid (one_any tb ao zs n cap w ht hn hz hB hd hlen)
  have HKB := Lib.hid (macK_inB hB)
  have HKE : Hid (macK zs = if 64 < n then shaF zs else zs) := Lib.hid (by unfold macK; rw [hn])
  clear ht hn hz hB hd hlen
  go_enter Try.func59, Try.ntmps59
  go_upto_if 8 with fail
  go_cut [1] (fun s wx => ∃ ao' m' c', s = .slice ao' m' c' ∧ (macK zs).length = m' ∧ IntsAt .u8 wx ao' (macK zs) ∧ TabOk wx tb ∧ Keeps (fun i => i = tb) w wx ∧ (macK zs = [] ∨ ∀ a, ao' = some a → a.block ≠ tb))
  case first =>
    by_cases hb : (64 : Int) < (n : Int)
    · go_wp2_with fail
      refine HON.out.mono ?_
      rintro e w1 ⟨g, c, rfl, ht1, ho1, hl1, hk1, hg1⟩
      have HE : Hid (macK zs = shaF zs) := Lib.hid (by rw [HKE.out, if_pos (by omega)])
      have HT1 := Lib.hid ht1
      have HI1 := Lib.hid (owns_at ho1).2.1
      have HK1 := Lib.hid hk1
      have HG1 := Lib.hid hg1
      clear ht1 ho1 hl1 hk1 hg1
      go_wp2_with fail
      go_meet
      case rel => exact ⟨_, _, _, rfl, by rw [HE.out, shaF_len], by rw [HE.out]; exact HI1.out, HT1.out, HK1.out, Or.inr (fun a ha => by cases ha; have := HG1.out; have := HTL.out; dsimp only; omega)⟩
    · have HE : Hid (macK zs = zs) := Lib.hid (by rw [HKE.out, if_neg (by omega)])
      go_wp2_with fail
      go_meet
      case rel => exact ⟨_, _, _, rfl, by rw [HE.out]; exact HN.out, by rw [HE.out]; exact HZ.out, HT.out, Keeps.refl _ _, by rw [HE.out]; exact HD.out⟩
  case rest =>
    obtain ⟨ko, m, kc, rfl, hm, hi, ht, hk, hd⟩ := hcut
    rename World => w1
    clear HZ HN HD HON HKE
    have HM := Lib.hid hm
    have HI1 := Lib.hid hi
    have HT1 := Lib.hid ht
    have HK1 := Lib.hid hk
    have HD := Lib.hid hd
    clear hm hi ht hk hd
    obtain ⟨K, hK⟩ : ∃ K, K = macK zs := ⟨_, rfl⟩
    rw [← hK] at HM HI1 HD HKB
    have HKE := Lib.hid hK
    clear hK HB
    go_wp2_with fail
    refine (padded_any ko K m kc 92 w1 HM.out HI1.out).mono ?_
    rintro e w2 ⟨rfl, hr2, hb2⟩
    have HR2 := Lib.hid hr2
    have HT2 := Lib.hid (HT1.out.below hb2)
    have HI2 := Lib.hid (ints_below HI1.out hb2)
    have HK2 : Hid (Keeps (fun i => i = tb) w w2) := Lib.hid (HK1.out.trans (Keeps.of_below (S := fun _ => False) hb2) (fun _ h => h.elim))
    have HGL : Hid (w.heap.size ≤ w1.heap.size ∧ w1.heap.size < w2.heap.size) := Lib.hid ⟨HK1.out.size, hr2.lt⟩
    generalize w1.heap.size = g at *
    clear hr2 hb2 HT1 HI1 HK1
    go_wp2_with fail
    refine (new_any tb w2 HT2.out).mono ?_
    rintro e w3 ⟨rfl, ht3, hh3, hk3⟩
    have HT3 := Lib.hid ht3
    have HH3 := Lib.hid hh3
    have HR3 := Lib.hid (HR2.out.same (hk3.block g HR2.out.lt (by have := HGL.out; have := HTL.out; omega)))
    have HI3 : Hid (IntsAt .u8 w3 ko K) := Lib.hid (by
      rcases HD.out with h | h
      · exact Or.inl h
      · exact HI2.out.same (fun a ha hl => hk3.block a.block hl (h a ha)))
    have HPL : Hid (g < w2.heap.size ∧ w2.heap.size < w3.heap.size) := Lib.hid ⟨HGL.out.2, hh3.lt.1⟩
    have HK3 : Hid (Keeps (fun i => i = tb) w w3) := Lib.hid (HK2.out.trans hk3 (fun i h => Or.inl h))
    generalize w2.heap.size = p at *
    clear ht3 hh3 hk3 HT2 HI2 HK2 HR2
    go_upto_region 4 with fail
    obtain ⟨w4, hw4⟩ : ∃ w4, w4 = w3.alloc (.cells #[.pointer (some ⟨tb, 0, none⟩), .slice (some ⟨g, 0, none⟩) 64 64, .pointer (some ⟨p, 0, none⟩)] 126) := ⟨_, rfl⟩
    have hb4 : Below w3.heap.size w3 w4 := by rw [hw4]; exact (Below.refl _ _).alloc (Nat.le_refl _) _
    have HX4 : Hid (w4.heap[w3.heap.size]? = some (.cells #[.pointer (some ⟨tb, 0, none⟩), .slice (some ⟨g, 0, none⟩) 64 64, .pointer (some ⟨p, 0, none⟩)] 126 (0, 0))) := Lib.hid (by rw [hw4]; exact heap_alloc_new _ _)
    have HT4 := Lib.hid (HT3.out.below hb4)
    have HH4 : Hid (HashAt w4 p tb [] (.slice none 0 0)) := Lib.hid (HH3.out.keep (S := fun _ => False) (Keeps.of_below hb4) (fun h => h) (fun _ _ h => h))
    have HR4 := Lib.hid (HR3.out.same (hb4.block g HR3.out.lt))
    have HI4 := Lib.hid (ints_below HI3.out hb4)
    have HK4 : Hid (Keeps (fun i => i = tb) w w4) := Lib.hid (HK3.out.trans (Keeps.of_below (S := fun _ => False) hb4) (fun _ h => h.elim))
    have HQL := Lib.hid (blk_lt HX4.out)
    rw [← hw4]
    generalize w3.heap.size = q at *
    clear hw4 hb4 HT3 HH3 HR3 HI3 HK3
    have HPA := Lib.hid (padded_any ko K m kc 54 w4.drew HM.out (HI4.out.same (w' := w4.drew) (fun _ _ _ => rfl)))
    refine wp_region_held_drew (S := fun w' => w'.cell? ⟨q, 2, none⟩ = some (.pointer (some ⟨p, 0, none⟩)) ∧ Keeps (fun i => i = tb ∨ i = p) w4 w') (by kernel_rfl) ?_ (fun hHeld => ?_)
    · exact ⟨blk_cell HX4.out 2, (Keeps.refl _ w4).drew⟩
    refine take_at (i := 0) (d := 19) (v := ?_) rfl rfl (by kernel_rfl) (by kernel_rfl) (by kernel_rfl) (fun _ _ _ h => h) (Or.inl ⟨by rfl, by intro w' hSw; (try dsimp only at hSw); go_simp; try with_reducible rfl⟩) (by assumption) ?_
    simp only [List.setIfInBounds_toArray, List.set_cons_zero, List.set_cons_succ]
    refine take_at (i := 1) (d := 20) (v := ?_) rfl rfl (by kernel_rfl) (by kernel_rfl) (by kernel_rfl) (fun _ _ _ h => h) (Or.inl ⟨by rfl, by intro w' hSw; (try dsimp only at hSw); go_simp; try with_reducible rfl⟩) (by assumption) ?_
    simp only [List.setIfInBounds_toArray, List.set_cons_zero, List.set_cons_succ]
    refine take_at (i := 2) (d := 21) (v := ?_) rfl rfl (by kernel_rfl) (by kernel_rfl) (by kernel_rfl) (fun _ _ _ h => h) (Or.inl ⟨by rfl, by intro w' hSw; (try dsimp only at hSw); go_simp; try with_reducible rfl⟩) (by assumption) ?_
    simp only [List.setIfInBounds_toArray, List.set_cons_zero, List.set_cons_succ]
    refine take_at (i := 3) (d := 22) (v := ?_) rfl rfl (by kernel_rfl) (by kernel_rfl) (by kernel_rfl) (fun _ _ _ h => h) (Or.inl ⟨by rfl, by intro w' hSw; (try dsimp only at hSw); go_simp; try with_reducible rfl⟩) (by assumption) ?_
    simp only [List.setIfInBounds_toArray, List.set_cons_zero, List.set_cons_succ]
    refine take_at (i := 4) (d := 23) (v := ?_) rfl rfl (by kernel_rfl) (by kernel_rfl) (by kernel_rfl) (fun _ _ _ h => h) (Or.inl ⟨by rfl, by intro w' hSw; (try dsimp only at hSw); go_simp; try with_reducible rfl⟩) (by assumption) ?_
    simp only [List.setIfInBounds_toArray, List.set_cons_zero, List.set_cons_succ]
    refine wpAnyH_ready (rs := [5]) (by kernel_rfl) (by simp) ?_
    refine AllReadyH.cons rfl (fun K hK => ?_) AllReadyH.nil
    go_simp
    go_at_call 72
    refine HPA.out.mono ?_
    rintro e w5 ⟨rfl, hr5, hb5⟩
    have HB5 : Hid (Below w4.heap.size w4 w5) := Lib.hid (below_step ((Keeps.refl (fun _ => False) w4).drew.below (Nat.le_refl _) (fun _ h => h.elim)) hb5)
    have HP5 := Lib.hid hr5
    have HG5 : Hid (w4.heap.size ≤ w4.drew.heap.size) := Lib.hid (Nat.le_refl _)
    generalize w4.drew.heap.size = gi at *
    clear hr5 hb5
    dsimp only
    go_wp2_with fail
    refine hK.out _ _ ?_ (fun hHeld => ?_)
    · exact ⟨(HB5.out.cell (p := ⟨q, 2, none⟩) HQL.out).trans (blk_cell HX4.out 2), (Keeps.of_below HB5.out)⟩
    clear hK K
    try simp only [Act.put, List.getElem_toArray, List.getElem_cons_succ, List.getElem_cons_zero]
    try simp only [List.setIfInBounds_toArray, List.set_cons_zero, List.set_cons_succ]
    have HT5 := Lib.hid (HT4.out.below HB5.out)
    have HH5 : Hid (HashAt w5 p tb [] (.slice none 0 0)) := Lib.hid (HH4.out.keep (S := fun _ => False) (Keeps.of_below HB5.out) (fun h => h) (fun _ _ h => h))
    have HWR := Lib.hid (write_any p tb _ [] w5 HT5.out HH5.out (some ⟨gi, 0, none⟩) (padB K 54) 64 64 (padB_len _ _) HP5.out.ints (padB_inB _ _) (Or.inr (fun a ha => by cases ha; have := HG5.out; have := HH4.out.lt.1; dsimp only; omega)) (by simp))
    refine wpAnyH_ready (rs := [6]) (by kernel_rfl) (by simp) ?_
    refine AllReadyH.cons rfl (fun K hK => ?_) AllReadyH.nil
    go_simp
    go_at_call 49
    refine HWR.out.mono ?_
    rintro e w6 ⟨rfl, v, ht6, hh6, hk6, hf6⟩
    have HT6 := Lib.hid ht6
    have hk6 : Keeps (fun i => i = tb ∨ i = p) w5 w6 := hk6.mono (fun i _ h => by
      rcases h with h | h | h
      · exact Or.inl h
      · exact Or.inr h
      · cases h)
    have HH6 := Lib.hid hh6
    have HK6 := Lib.hid hk6
    have HF6 := Lib.hid hf6
    clear ht6 hh6 hk6 hf6
    dsimp only
    go_wp2_with fail
    refine hK.out _ _ ?_ (fun hHeld => ?_)
    · exact ⟨(World.cell?_of_block (a := ⟨q, 2, none⟩) ((HK6.out.block q (by have := HQL.out; have := HB5.out.size; omega) (by have := HPL.out; have := HTL.out; have := HGL.out; omega)).trans (HB5.out.block q HQL.out))).trans (blk_cell HX4.out 2), (Keeps.of_below HB5.out).trans HK6.out (fun i h => Or.inl h)⟩
    clear hK K
    try simp only [Act.put, List.getElem_toArray, List.getElem_cons_succ, List.getElem_cons_zero]
    try simp only [List.setIfInBounds_toArray, List.set_cons_zero, List.set_cons_succ]
    refine wpAnyH_done (by kernel_rfl) ?_ _
    have HK0 := Lib.hid hHeld.2
    clear hHeld
    go_wp2
    go_ret
    have e1 := HGL.out
    have e2 := HPL.out
    have e3 := HTL.out
    have e4 := HQL.out
    have e5 := HB5.out.size
    have e6 := HR4.out.lt
    have hh6 := HH6.out
    have hr4 := HR4.out
    rw [HKE.out] at hh6 hr4
    have hkk : Keeps (fun i => i = tb) w w6 := HK4.out.trans HK0.out (fun i h => by omega)
    exact ⟨q, p, g, v, rfl, ⟨HT6.out, (HK0.out.block q e4 (by omega)).trans HX4.out, hr4.same (HK0.out.block g e6 (by omega)), by rw [List.append_nil]; exact hh6, hkk.size, e3, by omega, by omega, by omega, fun b hb => (by have := HF6.out b hb; omega), by omega, by omega, by omega⟩, hkk⟩

section
variable {w0 w : World} {q p g tb : Nat} {key all : List Int} {v : Value}
theorem mac_write (h : MacAt w0 w q p g tb key all v) (ao : Option Addr) (bs : List Int) (n cap : Nat) (hn : bs.length = n) (hz : IntsAt .u8 w ao bs) (hB : InB bs) (hp : bs = [] ∨ ∀ a, ao = some a → a.block ≠ p) (hlen : all.length + n ≤ 1000000000000) :
    Calls Try.prog 60 #[.pointer (some ⟨q, 0, none⟩), .slice ao n cap] w fun e w' => e = .returned (.tuple #[]) ∧ ∃ v', MacAt w0 w' q p g tb key (all ++ bs) v' ∧ Keeps (fpH p tb v) w w' ∧ (∀ b, v'.ownBlock = some b → w.heap.size ≤ b) := by
  have HM := Lib.hid h
  have HWR := Lib.hid (write_any p tb v (padB (macK key) 54 ++ all) w h.tab h.hash ao bs n cap hn hz hB hp (by rw [List.length_append, padB_len]; omega))
  obtain ⟨c0, c1, c2⟩ := h.cells
  clear h hn hz hB hp hlen
  go_enter Try.func60, Try.ntmps60
  go_wp2_with fail
  refine HWR.out.mono ?_
  rintro e w1 ⟨rfl, v', ht1, hh1, hk1, hf1⟩
  have HT1 := Lib.hid ht1
  have HH1 := Lib.hid hh1
  have HK1 := Lib.hid hk1
  have HF1 := Lib.hid hf1
  clear ht1 hh1 hk1 hf1
  go_wp2
  go_end0
  have h := HM.out
  have a1 := h.tl; have a2 := h.ql; have a3 := h.pl; have a4 := h.gl; have d1 := h.d1; have d2 := h.d2; have d3 := h.d3
  have hS : ∀ i, fpH p tb v i → i = tb ∨ i = p ∨ (w0.heap.size ≤ i ∧ i ≠ q ∧ i ≠ g) := fun i hi => by
    rcases hi with e | e | e
    · exact Or.inl e
    · exact Or.inr (Or.inl e)
    · exact Or.inr (Or.inr (h.vl i e))
  have hh1 := HH1.out
  rw [List.append_assoc] at hh1
  refine ⟨rfl, v', ⟨HT1.out, (HK1.out.block q (blk_lt h.blk) (fun e => by have := hS q e; omega)).trans h.blk, h.row.same (HK1.out.block g h.row.lt (fun e => by have := hS g e; omega)), hh1, Nat.le_trans h.size HK1.out.size, a1, a2, a3, a4, fun b hb => ?_, d1, d2, d3⟩, HK1.out, HF1.out⟩
  have := HF1.out b hb
  have := h.size
  have := blk_lt h.blk
  have := h.row.lt
  omega

set_option maxHeartbeats 1000000 in
theorem mac_sum (h : MacAt w0 w q p g tb key all v) (hlen : all.length ≤ 1000000000000) :
    Calls Try.prog 61 #[.pointer (some ⟨q, 0, none⟩)] w fun e w' => SumPost w tb (macF key all) e w' ∧ MacAt w0 w' q p g tb key all v := by
  have HM := Lib.hid h
  have HL := Lib.hid hlen
  have HQL := Lib.hid (blk_lt h.blk)
  have HTL := Lib.hid h.tab.lt
  obtain ⟨c0, c1, c2⟩ := h.cells
  have HNW := Lib.hid (new_any tb w h.tab)
  clear h hlen
  go_enter Try.func61, Try.ntmps61
  go_wp2_with fail
  refine HNW.out.mono ?_
  rintro e w1 ⟨rfl, ht1, hh1, hk1⟩
  have HH1 := Lib.hid hh1
  have HT1 := Lib.hid ht1
  have HK1 := Lib.hid hk1
  have HM1 := Lib.hid (HM.out.step hk1 ht1 (fun i hi => Or.inl hi))
  clear ht1 hh1 hk1 c0 c1 c2
  obtain ⟨_, c1, _⟩ := HM1.out.cells
  have HWR := Lib.hid (write_any w.heap.size tb _ [] w1 HT1.out HH1.out (some ⟨g, 0, none⟩) (padB (macK key) 92) 64 64 (padB_len _ _) HM1.out.row.ints (padB_inB _ _) (Or.inr (fun a ha => by cases ha; have := HM.out.row.lt; dsimp only; omega)) (by simp))
  go_wp2_with fail
  refine HWR.out.mono ?_
  rintro e w2 ⟨rfl, v2, ht2, hh2, hk2, hf2⟩
  have hk2 : Keeps (fun i => i = tb ∨ i = w.heap.size) w1 w2 := hk2.mono (fun i _ h => by
    rcases h with h | h | h
    · exact Or.inl h
    · exact Or.inr h
    · cases h)
  rw [List.nil_append] at hh2
  have HH2 := Lib.hid hh2
  have HT2 := Lib.hid ht2
  have HK2 : Hid (Keeps (fun i => i = tb) w w2) := Lib.hid (HK1.out.trans hk2 (fun i hi => by omega))
  have HM2 := Lib.hid (HM.out.step HK2.out ht2 (fun i hi => Or.inl hi))
  have HF2 : Hid (∀ b, v2.ownBlock = some b → w.heap.size ≤ b) := Lib.hid (fun b hb => Nat.le_trans HK1.out.size (hf2 b hb))
  have HHL : Hid (w.heap.size < w2.heap.size) := Lib.hid HH2.out.lt.1
  clear ht2 hh2 hk2 hf2 c1 HWR HM1 HT1 HH1 HK1
  obtain ⟨_, _, c2⟩ := HM2.out.cells
  have HSM := Lib.hid (shaSum_any p tb v (padB (macK key) 54 ++ all) w2 HT2.out HM2.out.hash (by have := HL.out; rw [List.length_append, padB_len]; omega))
  go_wp2_with fail
  refine HSM.out.mono ?_
  rintro e w3 ⟨g1, k1, rfl, ht3, ho3, hl3, hk3, hg3⟩
  have HT3 := Lib.hid ht3
  have HH3 : Hid (HashAt w3 w.heap.size tb (padB (macK key) 92) v2) := Lib.hid (HH2.out.keep hk3 (by have := HTL.out; omega) (fun b hb e => by have := HF2.out b hb; have := HTL.out; omega))
  have HK3 : Hid (Keeps (fun i => i = tb) w w3) := Lib.hid (HK2.out.trans hk3 (fun i hi => Or.inl hi))
  have HWR := Lib.hid (write_any w.heap.size tb v2 _ w3 HT3.out HH3.out (some ⟨g1, 0, none⟩) _ 32 k1 (shaF_len (padB (macK key) 54 ++ all)) (owns_at ho3).2.1 (shaF_inB _) (Or.inr (fun a ha => by cases ha; have := HHL.out; dsimp only; omega)) (by rw [padB_len]; omega))
  clear ht3 ho3 hl3 hk3 hg3 c2 HH2 HT2
  go_wp2_with fail
  refine HWR.out.mono ?_
  rintro e w4 ⟨rfl, v4, ht4, hh4, hk4, hf4⟩
  have HT4 := Lib.hid ht4
  have HH4 := Lib.hid hh4
  have HK4 : Hid (Keeps (fun i => i = tb) w w4) := Lib.hid (HK3.out.trans hk4 (fun i hi => by
    rcases hi with h | h | h
    · exact Or.inl h
    · exact Or.inr (by omega)
    · exact Or.inr (HF2.out i h)))
  clear ht4 hh4 hk4 hf4 HWR HT3 HH3 HK3
  have HSM2 := Lib.hid (shaSum_any w.heap.size tb v4 _ w4 HT4.out HH4.out (by rw [List.length_append, padB_len, shaF_len]; omega))
  go_wp2_with fail
  refine HSM2.out.mono ?_
  rintro e w5 ⟨g5, k5, rfl, ht5, ho5, hl5, hk5, hg5⟩
  have HT5 := Lib.hid ht5
  have HO5 := Lib.hid ho5
  have HL5 := Lib.hid hl5
  have HG5 := Lib.hid (Nat.le_trans HK4.out.size hg5)
  have HK5 : Hid (Keeps (fun i => i = tb) w w5) := Lib.hid (HK4.out.trans hk5 (fun i hi => Or.inl hi))
  clear ht5 ho5 hl5 hk5 hg5 HSM HSM2
  go_wp2
  go_ret
  exact ⟨⟨g5, k5, rfl, HT5.out, HO5.out, HL5.out, HK5.out, HG5.out⟩, HM.out.step HK5.out HT5.out (fun i hi => Or.inl hi)⟩
end

set_option maxHeartbeats 1000000 in
theorem macOne_any (tb : Nat) (ao : Option Addr) (zs : List Int) (n cap : Nat) (bo : Option Addr) (ys : List Int) (m d : Nat) (w : World) (ht : TabOk w tb) (hn : zs.length = n) (hz : IntsAt .u8 w ao zs) (hB : InB zs) (hd : zs = [] ∨ ∀ a, ao = some a → a.block ≠ tb) (hlen : n ≤ 1099511627776)
    (hm : ys.length = m) (hy : IntsAt .u8 w bo ys) (hC : InB ys) (he : ys = [] ∨ ∀ a, bo = some a → a.block ≠ tb) (hlen2 : m ≤ 1000000000000) :
    Calls Try.prog 42 #[.pointer (some ⟨tb, 0, none⟩), .slice ao n cap, .slice bo m d] w fun e w' => SumPost w tb (macF zs ys) e w' := by
  have HNW := Lib.hid (macNew_any tb ao zs n cap w ht hn hz hB hd hlen)
  have HM := Lib.hid hm
  have HY := Lib.hid hy
  have HC := Lib.hid hC
  have HE := Lib.hid he
  have HL := Lib.hid hlen2
  clear ht hn hz hB hd hlen hm hy hC he hlen2
  go_enter Try.func42, Try.ntmps42
  go_wp2_with fail
  refine HNW.out.mono ?_
  rintro e w1 ⟨q, p, g, v, rfl, hm1, hk1⟩
  have HM1 := Lib.hid hm1
  have HK1 := Lib.hid hk1
  have HY1 : Hid (IntsAt .u8 w1 bo ys) := Lib.hid (by
    rcases HE.out with h | h
    · exact Or.inl h
    · exact HY.out.same (fun a ha hl => hk1.block a.block hl (h a ha)))
  have HWR := Lib.hid (mac_write hm1 bo ys m d HM.out HY1.out HC.out (HY.out.far hm1.pl) (by have := HL.out; simp; omega))
  clear hm1 hk1
  go_wp2_with fail
  refine HWR.out.mono ?_
  rintro e w2 ⟨rfl, v2, hm2, hk2, hf2⟩
  rw [List.nil_append] at hm2
  have HM2 := Lib.hid hm2
  have HK2 : Hid (Keeps (fun i => i = tb) w w2) := Lib.hid (HK1.out.trans hk2 (fun i hi => by
    rcases hi with h | h | h
    · exact Or.inl h
    · have := HM1.out.pl; exact Or.inr (by omega)
    · exact Or.inr (HM1.out.vl i h).1))
  have HSM := Lib.hid (mac_sum hm2 (by have := HL.out; have := HM.out; omega))
  clear hm2 hk2 hf2
  go_wp2_with fail
  refine HSM.out.mono ?_
  rintro e w3 ⟨⟨g3, c3, rfl, ht3, ho3, hl3, hk3, hg3⟩, hm3⟩
  have HP : Hid (SumPost w tb (macF zs ys) (.returned (.slice (some ⟨g3, 0, none⟩) 32 c3)) w3) := Lib.hid ⟨g3, c3, rfl, ht3, ho3, hl3, HK2.out.trans hk3 (fun i hi => Or.inl hi), Nat.le_trans HK2.out.size hg3⟩
  clear ht3 ho3 hl3 hk3 hg3 hm3
  go_wp2
  go_ret
  exact HP.out

end Go.Proofs.Yteabnagdfecleaa
