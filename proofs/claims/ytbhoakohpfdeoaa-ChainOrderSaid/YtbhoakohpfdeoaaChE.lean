/- Package chain: Export. The chapter's example. The reference's Export of entries. -/
import Derived.Test.YtbhoakohpfdeoaaChC
import Derived.Test.YtbhoakohpfdeoaaByt
namespace Go.Proofs.Ytbhoakohpfdeoaa
open Go.RowKit
set_option linter.unusedVariables false
set_option linter.unusedSimpArgs false

theorem bodyC_take_le (l : List ER) (k : Nat) : (bodyC (l.take k)).length ≤ (bodyC l).length := by
  have h : bodyC l = bodyC (l.take k) ++ bodyC (l.drop k) := by
    conv => lhs; rw [← List.take_append_drop k l]
    unfold bodyC
    rw [List.flatMap_append]
  rw [h, List.length_append]
  omega
theorem ent_keep {S : Nat → Prop} {w w' : World} {e : EV} (h : e.okAt w ∧ (e.b = [] ∨ ∀ a, e.ao = some a → ¬ S a.block)) (hk : Keeps S w w') : IntsAt .u8 w' e.ao e.b := by
  rcases h.2 with h0 | h0
  · exact Or.inl h0
  · exact h.1.1.same (fun a ha hl => hk.block a.block hl (h0 a ha))
theorem firstBad_at (l : List ER) (k : Nat) (h : k < l.length) (hall : ∀ j (hj : j < l.length), j < k → (l[j]).ok) (hb : badF l[k] ≠ 0) : firstBad l = badF l[k] := by
  induction l generalizing k with
  | nil => simp at h
  | cons e l ih =>
    rw [firstBad]
    cases k with
    | zero => simp only [List.getElem_cons_zero] at hb ⊢; rw [if_neg hb]
    | succ k =>
      have h0 := (badF_ok e).2 (hall 0 (by simp) (by omega))
      rw [if_pos h0]
      simp only [List.getElem_cons_succ] at hb ⊢
      exact ih k (by simpa using h) (fun j hj hjk => by have := hall (j + 1) (by simpa using hj) (by omega); simpa using this) hb
/-- An export under way. -/
structure XI (w wr : World) (tb p : Nat) (L : List ER) (a2 : Option Addr) (N c2 : Nat) : Prop where
  tab : TabOk wr tb
  ch : CI tb wr p L
  row : wr.ownsRow 0 5 1 (.slice a2 N c2) N ((bodyC L).map (Value.int .u8))
  keep : Keeps (fun i => i = tb) w wr
  fr : ∀ g, (Value.slice a2 N c2).ownBlock = some g → w.heap.size ≤ g
  own : w.heap.size ≤ p
section
variable {w wr w' : World} {tb p : Nat} {L : List ER} {a2 : Option Addr} {N c2 : Nat}
theorem XI.below (h : XI w wr tb p L a2 N c2) (hb : Below wr.heap.size wr w') : XI w w' tb p L a2 N c2 :=
  ⟨h.tab.below hb, h.ch.below hb, ownsRow_same h.row (fun g hg => hb.block g (h.row.lt g hg).2), h.keep.step hb, h.fr, h.own⟩
theorem CI.row_ne (h : CI tb wr p L) {xs : List Value} (hr : wr.ownsRow 0 5 1 (.slice a2 N c2) N xs) {g : Nat} (hg : (Value.slice a2 N c2).ownBlock = some g) : g ≠ p := by
  obtain ⟨_, _, h1, _⟩ := h
  exact row_ne_chain hr hg h1
end

/-- What an Export hands back. -/
def XPost (w : World) (tb : Nat) (r : List Int × Int) (e : Ending) (w' : World) : Prop := ∃ a2 c2, e = .returned (.tuple #[.slice a2 r.1.length c2, .int .i64 r.2]) ∧ RowT w tb r.1 (.slice a2 r.1.length c2) w'
set_option maxRecDepth 100000 in
set_option maxHeartbeats 4000000 in
theorem export_any (tb : Nat) (ao : Option Addr) (es : List EV) (n c : Nat) (w : World) (ht : TabOk w tb) (hn : es.length = n) (h : EntS (fun i => i = tb) w ao es) (hcap : n ≤ c) (hcm : c ≤ maxLen) (hm : n ≤ 1000) (hs : (bodyC (ersL es)).length ≤ 400000) :
    Calls Try.prog 17 #[.pointer (some ⟨tb, 0, none⟩), .slice ao n c] w fun e w' => XPost w tb (exportF (ersL es)) e w' := by
  have HN := Lib.hid hn
  have HE := Lib.hid h
  have HT := Lib.hid ht
  have HM := Lib.hid hm
  have HS := Lib.hid hs
  have HTL := Lib.hid ht.lt
  clear hn h ht hcap hcm hm hs
  have HNW := Lib.hid (chain_new tb w HT.out)
  go_enter Try.func17, Try.ntmps17
  go_wp2_with fail
  with_reducible refine HNW.out.mono ?_
  rintro e w0 ⟨p, rfl, ht0, hc0, hb0, hp0⟩
  have HX0 : Hid (XI w w0 tb p [] none 0 0) := Lib.hid ⟨ht0, hc0, World.ownsRow_nil _ _ _ _, Keeps.of_below hb0, (fun g (hg : (Value.slice none 0 0).ownBlock = some g) => by cases hg), hp0⟩
  clear ht0 hc0 hb0 hp0 HNW
  go_wp2_with fail
  go_loopw [7, 18] (fun s i wr => ∃ (k N : Nat) (a2 : Option Addr) (c2 : Nat), k ≤ n ∧ i = .int .i64 (k : Int) ∧ s = .slice a2 N c2 ∧ N = (bodyC (ersL (es.take k))).length ∧ XI w wr tb p (ersL (es.take k)) a2 N c2 ∧ ∀ j (hj : j < es.length), j < k → (es[j]).er.ok) (fun _ i _ => n - (intOf i).toNat)
  case atStart => exact ⟨0, 0, none, 0, by omega, rfl, rfl, rfl, HX0.out, fun j hj h => by omega⟩
  case round =>
    obtain ⟨k, N, a2, c2, hk, rfl, rfl, hN, hx, hall⟩ := hrel
    have HX := Lib.hid hx
    have HNN := Lib.hid hN
    have HAL := Lib.hid hall
    have HES := Lib.hid (HE.out.keep hx.keep)
    clear hx hN hall
    by_cases hlt : k < n
    · have i1 : (k : Int) < (n : Int) := by omega
      have hkb : k < es.length := by rw [HN.out]; exact hlt
      obtain ⟨b, off, rfl, c0, c1⟩ := HES.out.ent.at k hkb
      have HXE := Lib.hid (HES.out.2 es[k] (List.getElem_mem hkb))
      have HXW := Lib.hid (HE.out.2 es[k] (List.getElem_mem hkb))
      have HSU := Lib.hid (ersL_succ es k hkb)
      rw [← ersL_take, ← ersL_take] at HSU
      have HTA := Lib.hid (bodyC_take_le (ersL es) (k + 1))
      rw [← ersL_take] at HTA
      have HFB := Lib.hid (fun hb => firstBad_at (ersL es) k (by rw [ersL_len]; exact hkb) (fun j hj hjk => by
        have h := HAL.out j (by rw [ersL_len] at hj; exact hj) hjk
        simpa [ersL] using h) hb)
      rw [show (ersL es)[k]'(by rw [ersL_len]; exact hkb) = es[k].er by simp [ersL]] at HFB
      have HAK : Hid (∀ (h : es[k].er.ok) j (hj : j < es.length), j < k + 1 → (es[j]).er.ok) := Lib.hid (fun h j hj hjk => by
        by_cases e : j = k
        · subst e; exact h
        · exact HAL.out j hj (by omega))
      obtain ⟨m, hm⟩ : ∃ m, m = es[k].b.length := ⟨_, rfl⟩
      rw [← hm] at c1
      have HMM : Hid (es[k].er.b.length = m) := Lib.hid hm.symm
      have HLK : Hid ((ersL (es.take k)).length ≤ 1000) := Lib.hid (by rw [ersL_len, List.length_take]; have := HM.out; omega)
      generalize es[k] = ek at *
      have w2 : wrap64 ((k : Int) + 1) = ((k + 1 : Nat) : Int) := by have := HM.out; unfold wrap64; omega
      have HW2 := Lib.hid w2
      clear hm w2
      obtain ⟨w1, hw1⟩ : ∃ w1, w1 = wr.alloc (.cells #[.int .i64 ek.k, .slice ek.ao m ek.c] 34) := ⟨_, rfl⟩
      have HB1 : Hid (Below wr.heap.size wr w1) := Lib.hid (by rw [hw1]; exact (Below.refl _ _).alloc (Nat.le_refl _) _)
      have HY1 : Hid (EBox w1 wr.heap.size ek.k (.slice ek.ao m ek.c)) := Lib.hid (by rw [hw1]; exact EBox.new _ _ _)
      have HW1 := Lib.hid hw1
      have HX1 := Lib.hid (HX.out.below HB1.out)
      have HI1 := Lib.hid (ints_below HXE.out.1.1 HB1.out)
      have HAD := Lib.hid (chain_add tb p (ersL (es.take k)) ek.er ek.ao m ek.c w1 HX1.out.tab HX1.out.ch HMM.out HI1.out HXE.out.1.2.1 (by have := HLK.out; omega))
      unfold EV.er at HAD
      dsimp only at HAD
      go_upto_region 6 with fail
      rw [← HW1.out]
      clear c0 c1 hw1
      obtain ⟨x0, x1⟩ := HY1.out.cells
      go_wp2_with fail
      with_reducible refine HAD.out.mono ?_
      rintro e w2 ⟨rfl, ht2, ⟨qa, qc, hc2, hq2⟩, hk2⟩
      have HPB : Hid (p < wr.heap.size ∧ tb < wr.heap.size ∧ w.heap.size ≤ wr.heap.size) := Lib.hid ⟨HX.out.ch.lt, HX.out.tab.lt, HX.out.keep.size⟩
      have HY2 := Lib.hid (HY1.out.keep hk2 (by have := HPB.out; omega))
      have HK2 : Hid (Keeps (fun i => i = tb) w w2) := Lib.hid (HX1.out.keep.trans hk2 (fun i hi => by have := HX1.out.own; omega))
      have HR2 : Hid (w2.ownsRow 0 5 1 (.slice a2 N c2) N ((bodyC (ersL (es.take k))).map (Value.int .u8))) := Lib.hid (ownsRow_same HX1.out.row (fun g hg => hk2.block g (HX1.out.row.lt g hg).2 (by
        rintro (e | e)
        · exact tab_ne_row HX1.out.row hg HX1.out.tab e
        · exact HX1.out.ch.row_ne HX1.out.row hg e)))
      have HT2 := Lib.hid ht2
      have HC2 := Lib.hid hc2
      have HI2 := Lib.hid (ent_keep HXW.out HK2.out)
      have HBL : Hid (w.heap.size ≤ w2.heap.size ∧ wr.heap.size < w2.heap.size ∧ p < w2.heap.size) := Lib.hid ⟨HK2.out.size, HY2.out.lt, blk_lt hc2.1⟩
      have HQ2 := Lib.hid hq2
      clear hq2
      clear ht2 hc2 hk2 x0 x1 HAD HY1
      unfold EV.er at HFB
      try dsimp only at HFB
      by_cases hbad : badF { k := ek.k, b := ek.b } = 0
      case neg =>
        have hb : (badF { k := ek.k, b := ek.b } == 0) = false := by simp [hbad]
        have hb' : (badF { k := ek.k, b := ek.b } != 0) = true := by simp [hbad]
        have HR : Hid (exportF (ersL es) = ([], badF { k := ek.k, b := ek.b })) := Lib.hid (by unfold exportF; rw [HFB.out hbad, if_neg hbad])
        clear hbad
        generalize badF { k := ek.k, b := ek.b } = B at *
        go_wp2
        go_ret2
        rw [HR.out]
        exact ⟨none, 0, rfl, HT2.out, World.ownsRow_nil _ _ _ _, HK2.out, fun g (hg : (Value.slice none 0 0).ownBlock = some g) => by cases hg⟩
      have HOK : Hid (ER.ok { k := ek.k, b := ek.b }) := Lib.hid ((badF_ok _).1 hbad)
      have HQ3 := Lib.hid (HQ2.out hbad)
      rw [if_pos hbad] at HC2
      rw [hbad]
      clear hbad HFB
      have hb0 : ((0 : Int) != 0) = false := rfl
      obtain ⟨x0, x1⟩ := HY2.out.cells
      have HSL := Lib.hid (startC_len { k := ek.k, b := ek.b })
      have HNK : Hid ((bodyC (ersL (es.take (k + 1)))).length = N + 5 + m ∧ bodyC (ersL (es.take (k + 1))) = bodyC (ersL (es.take k)) ++ startC { k := ek.k, b := ek.b } ++ ek.b ∧ ersL (es.take (k + 1)) = ersL (es.take k) ++ [{ k := ek.k, b := ek.b }]) := Lib.hid (by
        have h1 : ersL (es.take (k + 1)) = ersL (es.take k) ++ [{ k := ek.k, b := ek.b }] := HSU.out
        have h2 : bodyC (ersL (es.take (k + 1))) = bodyC (ersL (es.take k)) ++ startC { k := ek.k, b := ek.b } ++ ek.b := by rw [h1, bodyC_snoc, List.append_assoc]
        refine ⟨?_, h2, h1⟩
        rw [h2, List.length_append, List.length_append, HSL.out, ← HNN.out]
        have h3 : ek.b.length = m := HMM.out
        rw [h3])
      have HN4 : Hid (N + 5 + m ≤ 400000) := Lib.hid (by have := HNK.out.1; have := HTA.out; have := HS.out; omega)
      have HRD : Hid (w2.drew.ownsRow 0 5 1 (.slice a2 N c2) N ((bodyC (ersL (es.take k))).map (Value.int .u8))) := Lib.hid HR2.out
      obtain ⟨i0, hi, hz0, hz1, hz2⟩ := info_parts Try_infoU8
      go_upto_region 9 with fail
      refine wp_region_held_drew (S := fun w' => w'.cell? ⟨wr.heap.size, 0, none⟩ = some (.int .i64 ek.k) ∧ w'.cell? ⟨wr.heap.size, 1, none⟩ = some (.slice ek.ao m ek.c)) (by kernel_rfl) ?_ (fun hHeld => ?_)
      · exact ⟨x0, x1⟩
      refine take_at (i := 0) (d := 28) (v := ?_) rfl rfl (by kernel_rfl) (by kernel_rfl) (by kernel_rfl) (fun _ _ _ h => h) (Or.inl ⟨by rfl, by intro w' hSw; (try dsimp only at hSw); go_simp; try with_reducible rfl⟩) (by assumption) ?_
      simp only [List.setIfInBounds_toArray, List.set_cons_zero, List.set_cons_succ]
      refine take_at (i := 1) (d := 29) (v := ?_) rfl rfl (by kernel_rfl) (by kernel_rfl) (by kernel_rfl) (fun _ _ _ h => h) (Or.inl ⟨by rfl, by intro w' hSw; (try dsimp only at hSw); go_simp; try with_reducible rfl⟩) (by assumption) ?_
      simp only [List.setIfInBounds_toArray, List.set_cons_zero, List.set_cons_succ]
      refine take_at (i := 4) (d := 32) (v := ?_) rfl rfl (by kernel_rfl) (by kernel_rfl) (by kernel_rfl) (fun _ _ _ h => h) (Or.inl ⟨by rfl, by intro w' hSw; (try dsimp only at hSw); go_simp; try with_reducible rfl⟩) (by assumption) ?_
      simp only [List.setIfInBounds_toArray, List.set_cons_zero, List.set_cons_succ]
      refine take_at (i := 5) (d := 33) (v := ?_) rfl rfl (by kernel_rfl) (by kernel_rfl) (by kernel_rfl) (fun _ _ _ h => h) (Or.inl ⟨by rfl, by intro w' hSw; (try dsimp only at hSw); go_simp; try with_reducible rfl⟩) (by assumption) ?_
      simp only [List.setIfInBounds_toArray, List.set_cons_zero, List.set_cons_succ]
      refine wpAnyH_ready (rs := [2]) (by kernel_rfl) (by simp) ?_
      refine AllReadyH.cons rfl (fun K hK => ?_) AllReadyH.nil
      go_simp
      refine (startC_any { k := ek.k, b := ek.b } ek.ao m ek.c w2.drew HOK.out HMM.out).mono ?_
      rintro e w3 ⟨sa, sc, rfl, hr3⟩
      rw [HSL.out] at hr3 ⊢
      have HB3 : Hid (Below w2.heap.size w2 w3) := Lib.hid (below_undrew hr3.2.1)
      have HS3 : Hid (w3.ownsRow 0 5 1 (.slice sa 5 sc) 5 ((startC { k := ek.k, b := ek.b }).map (Value.int .u8))) := Lib.hid (by have h := hr3.1; rw [HSL.out] at h; exact h)
      have HR3 : Hid (w3.ownsRow 0 5 1 (.slice a2 N c2) N ((bodyC (ersL (es.take k))).map (Value.int .u8))) := Lib.hid (ownsRow_same HR2.out (fun g hg => HB3.out.block g (HR2.out.lt g hg).2))
      have HY3 := Lib.hid (HY2.out.below HB3.out)
      have HK3 := Lib.hid (HK2.out.step HB3.out)
      clear hr3 x0 x1
      obtain ⟨x0, x1⟩ := HY3.out.cells
      dsimp only
      go_wp2_with fail
      refine hK.out _ _ ?_ (fun hHeld => ?_)
      · exact ⟨x0, x1⟩
      clear hK K
      try simp only [Act.put, List.getElem_toArray, List.getElem_cons_succ, List.getElem_cons_zero]
      try simp only [List.setIfInBounds_toArray, List.set_cons_zero, List.set_cons_succ]
      refine wpAnyH_ready (rs := [3]) (by kernel_rfl) (by simp) ?_
      refine AllReadyH.cons rfl (fun K hK => ?_) AllReadyH.nil
      refine step_append_any (by rfl) _ _ 29 (by rfl) 5 i0 (.int .u8 0) 1 1 Try.underlying29 hi hz0 hz1 hz2 rfl (by decide) (.slice a2 N c2) N _ (by rfl) HR3.out sa 5 sc ((startC { k := ek.k, b := ek.b }).map (Value.int .u8)) (by rfl) (by rw [List.length_map, HSL.out, Nat.mul_one]) (fun e => by have h := (owns_at HS3.out).2.1; rw [e] at h; have := ints_none h; have := HSL.out; omega) (src_ints (owns_at HS3.out).2.1) (ints_one _ _) (by have := HN4.out; unfold maxLen; omega) (by have := HN4.out; omega) ?_
      intro ao4 cap4 w4 hown hgrow hat hnn
      rw [← List.map_append] at hown
      have HR4 := Lib.hid hown
      have hk4 : Keeps (fun i => (Value.slice a2 N c2).ownBlock = some i) w3 w4 := (Keeps.refl _ w3).grown hgrow (fun i hi => Or.inl hi)
      have HK4 : Hid (Keeps (fun i => i = tb) w w4) := Lib.hid (HK3.out.trans hk4 (fun i hi => Or.inr (HX.out.fr i hi)))
      have HF4 : Hid (∀ g, (Value.slice ao4 (N + 5) cap4).ownBlock = some g → w.heap.size ≤ g ∧ g ≠ wr.heap.size ∧ g ≠ tb ∧ g ≠ p) := Lib.hid (fun g hg => by
        rcases hat g hg with h | h
        · exact ⟨HX.out.fr g h, fun e => by have := (HX.out.row.lt g h).2; omega, tab_ne_row HX.out.row h HX.out.tab, HX.out.ch.row_ne HX.out.row h⟩
        · have := HB3.out.size; have := HBL.out; have := HPB.out; omega)
      have HP4 := Lib.hid (fun (g : Nat) (hg : (Value.slice a2 N c2).ownBlock = some g) => (⟨tab_ne_row HX.out.row hg HX.out.tab, HX.out.ch.row_ne HX.out.row hg, (HX.out.row.lt g hg).2⟩ : g ≠ tb ∧ g ≠ p ∧ g < wr.heap.size))
      have HY4 := Lib.hid (HY3.out.keep hk4 (fun e => by have := HP4.out _ e; omega))
      have HT4 : Hid (TabOk w4 tb) := Lib.hid (tab_keep (HT2.out.below HB3.out) hk4 (fun e => (HP4.out _ e).1 rfl))
      have HC4 : Hid (CIg tb w4 p (ersL (es.take (k + 1))) qa qc) := Lib.hid (by
        rw [HNK.out.2.2]
        refine ⟨(hk4.block p (by have := HBL.out; have := HB3.out.size; omega) (fun e => (HP4.out _ e).2.1 rfl)).trans ((HB3.out.block p HBL.out.2.2).trans HC2.out.1), ownsRow_same HC2.out.2 (fun g hg => (hk4.block g (Nat.lt_of_lt_of_le (HC2.out.2.lt g hg).2 HB3.out.size) (fun e => ?_)).trans (HB3.out.block g (HC2.out.2.lt g hg).2))⟩
        have := HQ3.out g hg
        have := (HP4.out _ e).2.2
        have := HB1.out.size
        omega)
      have HG4 := Lib.hid (fun (g : Nat) (hg : (Value.slice ao4 (N + 5) cap4).ownBlock = some g) (hh : (Value.slice qa 32 qc).ownBlock = some g) => (show False by
        have h1 := HQ3.out g hh
        have h2 := (HC2.out.2.lt g hh).2
        have h3 := HB1.out.size
        have h4 := HB3.out.size
        rcases hat g hg with h | h
        · have := (HX.out.row.lt g h).2; omega
        · omega))
      clear hown hgrow hat hnn x0 x1
      obtain ⟨x0, x1⟩ := HY4.out.cells
      go_wp2_with fail
      refine hK.out _ _ ?_ (fun hHeld => ?_)
      · exact ⟨x0, x1⟩
      clear hK K
      try simp only [Act.put, List.getElem_toArray, List.getElem_cons_succ, List.getElem_cons_zero]
      try simp only [List.setIfInBounds_toArray, List.set_cons_zero, List.set_cons_succ]
      refine wpAnyH_ready (rs := [6]) (by kernel_rfl) (by simp) ?_
      refine AllReadyH.cons rfl (fun K hK => ?_) AllReadyH.nil
      have HI4 := Lib.hid (ent_keep HXW.out HK4.out)
      refine step_append_any (by rfl) _ _ 29 (by rfl) 5 i0 (.int .u8 0) 1 1 Try.underlying29 hi hz0 hz1 hz2 rfl (by decide) (.slice ao4 (N + 5) cap4) (N + 5) _ (by rfl) HR4.out ek.ao m ek.c (ek.b.map (Value.int .u8)) (by rfl) (by rw [List.length_map, Nat.mul_one]; exact HMM.out) (fun e => by have h := HI4.out; rw [e] at h; have := ints_none h; have h2 : ek.b.length = m := HMM.out; omega) (src_ints HI4.out) (ints_one _ _) (by have := HN4.out; unfold maxLen; omega) (by have := HN4.out; omega) ?_
      intro ao5 cap5 w5 hown hgrow hat hnn
      rw [← List.map_append, ← HNK.out.2.1] at hown
      have hk5 : Keeps (fun i => (Value.slice ao4 (N + 5) cap4).ownBlock = some i) w4 w5 := (Keeps.refl _ w4).grown hgrow (fun i hi => Or.inl hi)
      have HX5 : Hid (XI w w5 tb p (ersL (es.take (k + 1))) ao5 (N + 5 + m) cap5) := Lib.hid ⟨tab_keep HT4.out hk5 (fun e => (HF4.out _ e).2.2.1 rfl), ⟨qa, qc, (hk5.block p (blk_lt HC4.out.1) (fun e => (HF4.out _ e).2.2.2 rfl)).trans HC4.out.1, ownsRow_same HC4.out.2 (fun g hg => hk5.block g (HC4.out.2.lt g hg).2 (fun e => HG4.out g e hg))⟩, hown, HK4.out.trans hk5 (fun i hi => Or.inr (HF4.out i hi).1), fun g hg => by
        rcases hat g hg with h | h
        · exact (HF4.out g h).1
        · have := HK4.out.size; omega, HX.out.own⟩
      have HY5 := Lib.hid (HY4.out.keep hk5 (fun e => (HF4.out _ e).2.1 rfl))
      clear hown hgrow hat hnn x0 x1
      obtain ⟨x0, x1⟩ := HY5.out.cells
      go_wp2_with fail
      refine hK.out _ _ ?_ (fun hHeld => ?_)
      · exact ⟨x0, x1⟩
      clear hK K
      try simp only [Act.put, List.getElem_toArray, List.getElem_cons_succ, List.getElem_cons_zero]
      try simp only [List.setIfInBounds_toArray, List.set_cons_zero, List.set_cons_succ]
      refine take_at (i := 7) (d := 7) (v := ?_) rfl rfl (by kernel_rfl) (by kernel_rfl) (by kernel_rfl) (fun _ _ _ h => h) (Or.inl ⟨by rfl, by intro w' hSw; (try dsimp only at hSw); go_simp; try with_reducible rfl⟩) (by assumption) ?_
      simp only [List.setIfInBounds_toArray, List.set_cons_zero, List.set_cons_succ]
      refine wpAnyH_done (by kernel_rfl) ?_ _
      clear hHeld x0 x1
      go_wp2
      rw [HW2.out]
      refine ⟨⟨k + 1, N + 5 + m, ao5, cap5, by omega, rfl, rfl, HNK.out.1.symm, HX5.out, HAK.out HOK.out⟩, ?_⟩
      simp only [intOf]; omega
    · obtain rfl : k = n := by omega
      have i1 : ¬ (k : Int) < (k : Int) := by omega
      have hbig : ¬ (65535 : Int) < (k : Int) := by have := HM.out; omega
      have HTK := Lib.hid (show es.take k = es from List.take_of_length_le (by rw [HN.out]; exact Nat.le_refl _))
      rw [HTK.out] at HX HNN
      have HR : Hid (exportF (ersL es) = (headC (ersL es) ++ putB k 2 ++ bodyC (ersL es), 0)) := Lib.hid (by
        have h1 : firstBad (ersL es) = 0 := (firstBad_ok _).2 (fun e he => by
          obtain ⟨x, hx, rfl⟩ := List.mem_map.1 he
          obtain ⟨j, hj, rfl⟩ := List.getElem_of_mem hx
          exact HAL.out j hj (by rw [HN.out] at hj; exact hj))
        unfold exportF
        rw [if_pos h1, if_neg (by rw [ersL_len, HN.out]; have := HM.out; omega), ersL_len, HN.out])
      clear hlt hk
      go_wp2_with fail
      refine (newEnc wr).mono ?_
      rintro en w2 ⟨rfl, rfl⟩
      have HE2 := Lib.hid (EI.start 138 wr)
      generalize (wr.alloc (.cells #[.slice none 0 0, .int .i64 0] 138)) = w2 at *
      generalize wr.heap.size = q at *
      have HC2 := Lib.hid (HE2.out.num (k : Int) 2 (by simp))
      rw [show encNum ([]) 0 (k : Int) 2 = (putB k 2, 0) from encNum_ok ([]) (k : Int) 2 (by omega) (by omega) (by have := HM.out; omega)] at HC2
      go_wp2_with fail
      refine HC2.out.mono ?_
      rintro en w3 ⟨rfl, he⟩
      have HE3 := Lib.hid he
      clear he HE2 HC2
      have HDN := Lib.hid (HE3.out.done (by simp [putB_length]))
      rw [putB_length] at HDN
      go_wp2_with fail
      refine HDN.out.mono ?_
      rintro en w4 ⟨na, nc, rfl, hr4⟩
      have HB4 : Hid (Below wr.heap.size wr w4) := Lib.hid hr4.2.1
      have HO4 : Hid (w4.ownsRow 0 5 1 (.slice na 2 nc) 2 ((putB (k : Int) 2).map (Value.int .u8))) := Lib.hid (by have h := hr4.1; rw [putB_length] at h; exact h)
      have HX4 := Lib.hid (HX.out.below HB4.out)
      clear hr4 HDN HE3
      have HHD := Lib.hid (chain_head tb p (ersL es) w4 HX4.out.ch)
      have HHL := Lib.hid (headC_len (ersL es))
      go_wp2_with fail
      refine HHD.out.mono ?_
      rintro en w5 ⟨ha, hc, rfl, hr5⟩
      rw [HHL.out] at hr5 ⊢
      have HO5 : Hid (w5.ownsRow 0 5 1 (.slice ha 32 hc) 32 ((headC (ersL es)).map (Value.int .u8))) := Lib.hid (by have h := hr5.1; rw [HHL.out] at h; exact h)
      have HX5 := Lib.hid (HX4.out.below hr5.2.1)
      have HN5 : Hid (IntsAt .u8 w5 na (putB (k : Int) 2)) := Lib.hid (ints_below (owns_at HO4.out).2.1 hr5.2.1)
      clear hr5 HHD HO4 HX4
      obtain ⟨w6, hw6⟩ : ∃ w6, w6 = w5.alloc (.cells #[.slice ha 32 hc, .slice na 2 nc, .slice a2 N c2] 29) := ⟨_, rfl⟩
      have HB6 : Hid (Below w5.heap.size w5 w6) := Lib.hid (by rw [hw6]; exact (Below.refl _ _).alloc (Nat.le_refl _) _)
      have HR6 : Hid (RowsIn w6 w5.heap.size [⟨ha, headC (ersL es), hc⟩, ⟨na, putB (k : Int) 2, nc⟩, ⟨a2, bodyC (ersL es), c2⟩]) := Lib.hid (by
        have h := rows3 (w := w5) (a := ⟨ha, headC (ersL es), hc⟩) (b := ⟨na, putB (k : Int) 2, nc⟩) (c := ⟨a2, bodyC (ersL es), c2⟩) (owns_at HO5.out).2.1 HN5.out (owns_at HX5.out.row).2.1 29
        dsimp only at h
        rw [HHL.out, putB_length, ← HNN.out] at h
        rw [hw6]
        exact h)
      have HX6 := Lib.hid (HX5.out.below HB6.out)
      have HW6 := Lib.hid hw6
      have HCA := Lib.hid (concat_any w5.heap.size [⟨ha, headC (ersL es), hc⟩, ⟨na, putB (k : Int) 2, nc⟩, ⟨a2, bodyC (ersL es), c2⟩] 3 w6 rfl HR6.out (by rw [cat3]; simp only [List.length_append, putB_length]; have := HHL.out; have := HS.out; omega) (by omega))
      rw [cat3] at HCA
      dsimp only at HCA
      generalize headC (ersL es) ++ putB k 2 ++ bodyC (ersL es) = D at *
      clear hw6
      go_wp2_with fail
      rw [← HW6.out]
      with_reducible refine HCA.out.mono ?_
      rintro en w7 ⟨da, dc, rfl, hr7⟩
      have HX7 := Lib.hid (HX6.out.below hr7.2.1)
      have HO7 := Lib.hid hr7.1
      have HF7 : Hid (∀ g, (Value.slice da D.length dc).ownBlock = some g → w.heap.size ≤ g) := Lib.hid (fun g hg => Nat.le_trans HX6.out.keep.size (hr7.2.2 g hg))
      clear hr7 HCA
      go_wp2
      go_ret2
      rw [HR.out]
      exact ⟨da, dc, rfl, HX7.out.tab, HO7.out, HX7.out.keep, HF7.out⟩

theorem export_nil : exportF [] = (List.replicate 34 0, 0) := by decide +kernel

set_option maxRecDepth 100000 in
set_option maxHeartbeats 2000000 in
theorem first22_any (w : World) :
    Calls Try.prog 10 #[] w fun e w' => e = .returned (.bool true) ∧ Below w.heap.size w w' := by
  have hmk : ∀ w : World, (Instr.makeSlice 29 (.int .i64 32) (.int .i64 32)).run Try.prog w = .ok (.slice (some ⟨w.heap.size, 0, none⟩) 32 32) (w.alloc (.cells (madeCells #[.int .u8 0] 32) 5)) := fun w => run_make_row' (P := Try.prog) 29 5 (.int .u8 0) 1 Try.underlying29 Try_infoU8 rfl .i64 .i64 32 (by omega) (by omega) w
  have hmj : ∀ w : World, (Instr.makeSlice 29 (.int .i64 34) (.int .i64 34)).run Try.prog w = .ok (.slice (some ⟨w.heap.size, 0, none⟩) 34 34) (w.alloc (.cells (madeCells #[.int .u8 0] 34) 5)) := fun w => run_make_row' (P := Try.prog) 29 5 (.int .u8 0) 1 Try.underlying29 Try_infoU8 rfl .i64 .i64 34 (by omega) (by omega) w
  go_enter Try.func10, Try.ntmps10
  go_wp2_with fail
  refine (newTable_any w).mono ?_
  rintro e w1 ⟨rfl, ht1, hb1⟩
  have HT1 := Lib.hid ht1
  have HB1 := Lib.hid hb1
  have HEX := Lib.hid (export_any w.heap.size none [] 0 0 w1 ht1 rfl ⟨Or.inl rfl, fun e he => by cases he⟩ (by omega) (by unfold maxLen; omega) (by omega) (by simp [ersL, bodyC]))
  rw [show ersL [] = [] from rfl, export_nil] at HEX
  clear ht1 hb1
  go_wp2_with fail
  refine HEX.out.mono ?_
  rintro e w2 ⟨a2, c2, rfl, ht2, ho2, hk2, hf2⟩
  dsimp only at ho2 hf2
  rw [List.length_replicate] at ho2 hf2
  have HB2 : Hid (Below w.heap.size w w2) := Lib.hid (below_keeps HB1.out hk2 (Nat.le_refl _))
  have HO2 := Lib.hid ho2
  clear ht2 ho2 hk2 hf2 HEX HT1 HB1
  rw [show ((List.replicate 34 (0 : Int), (0 : Int))).1.length = 34 from List.length_replicate, show ((List.replicate 34 (0 : Int), (0 : Int))).2 = 0 from rfl]
  go_wp2_with fail
  refine (newTable_any w2).mono ?_
  rintro e w3 ⟨rfl, ht3, hb3⟩
  have HB3 : Hid (Below w.heap.size w w3) := Lib.hid (below_step HB2.out hb3)
  have HI3 := Lib.hid (ints_below (owns_at HO2.out).2.1 hb3)
  have HCN := Lib.hid (chain_new w2.heap.size w3 ht3)
  clear ht3 hb3 HB2 HO2
  go_wp2_with fail
  refine HCN.out.mono ?_
  rintro e w4 ⟨p, rfl, _, hc4, hb4, _⟩
  have HB4 : Hid (Below w.heap.size w w4) := Lib.hid (below_step HB3.out hb4)
  have HI4 := Lib.hid (ints_below HI3.out hb4)
  have HC4 := Lib.hid hc4
  clear hc4 hb4 HB3 HI3 HCN
  go_upto_region 3 with fail
  refine wp_region_held_drew (S := fun _ => True) (by kernel_rfl) ?_ (fun hHeld => ?_)
  · trivial
  refine take_at (i := 0) (d := 11) (v := ?_) rfl rfl (by kernel_rfl) (by kernel_rfl) (by kernel_rfl) (fun _ _ _ h => h) (Or.inl ⟨by rfl, by intro w' hSw; (try dsimp only at hSw); go_simp; try with_reducible rfl⟩) (by assumption) ?_
  simp only [List.setIfInBounds_toArray, List.set_cons_zero, List.set_cons_succ]
  refine take_at (i := 1) (d := 12) (v := ?_) rfl rfl (by kernel_rfl) (by kernel_rfl) (by kernel_rfl) (fun _ _ _ h => h) (Or.inl ⟨by rfl, by intro w' hSw; (try dsimp only at hSw); go_simp; try with_reducible rfl⟩) (by assumption) ?_
  simp only [List.setIfInBounds_toArray, List.set_cons_zero, List.set_cons_succ]
  refine take_at (i := 2) (d := 13) (v := ?_) rfl rfl (by kernel_rfl) (by kernel_rfl) (by kernel_rfl) (fun _ _ _ h => h) (Or.inl ⟨by rfl, by intro w' hSw; (try dsimp only at hSw); go_simp; try with_reducible rfl⟩) (by assumption) ?_
  simp only [List.setIfInBounds_toArray, List.set_cons_zero, List.set_cons_succ]
  refine take_at (i := 3) (d := 14) (v := ?_) rfl rfl (by kernel_rfl) (by kernel_rfl) (by kernel_rfl) (fun _ _ _ h => h) (Or.inl ⟨by rfl, by intro w' hSw; (try dsimp only at hSw); go_simp; try with_reducible rfl⟩) (by assumption) ?_
  simp only [List.setIfInBounds_toArray, List.set_cons_zero, List.set_cons_succ]
  refine wpAnyH_ready (rs := [4]) (by kernel_rfl) (by simp) ?_
  refine AllReadyH.cons rfl (fun K hK => ?_) AllReadyH.nil
  go_simp
  obtain ⟨wx, hw5⟩ : ∃ w5, w5 = (w4.alloc (.cells (madeCells #[.int .u8 0] 34) 5)).drew := ⟨_, rfl⟩
  have HBX : Hid (Below w4.heap.size w4 wx) := Lib.hid (by rw [hw5]; exact ((Below.refl _ _).alloc (Nat.le_refl _) _).drew)
  have HJ5 : Hid (IntsAt .u8 wx (some ⟨w4.heap.size, 0, none⟩) (List.replicate 34 0)) := Lib.hid (by rw [hw5]; exact ints_made (w := w4) 34)
  rw [← hw5]
  clear hw5
  go_wp2_with fail
  refine hK.out _ _ ?_ (fun hHeld => ?_)
  · trivial
  clear hK K
  try simp only [Act.put, List.getElem_toArray, List.getElem_cons_succ, List.getElem_cons_zero]
  try simp only [List.setIfInBounds_toArray, List.set_cons_zero, List.set_cons_succ]
  refine wpAnyH_ready (rs := [5]) (by kernel_rfl) (by simp) ?_
  refine AllReadyH.cons rfl (fun K hK => ?_) AllReadyH.nil
  go_simp
  have HBE := Lib.hid (bytes_eq a2 (some ⟨w4.heap.size, 0, none⟩) (List.replicate 34 0) (List.replicate 34 0) 34 34 c2 34 wx rfl rfl (ints_below HI4.out HBX.out) HJ5.out (inB_zeros 34) (inB_zeros 34))
  rw [eqB_self] at HBE
  refine HBE.out.mono ?_
  rintro e w9 ⟨rfl, rfl⟩
  clear HBE HJ5
  dsimp only
  go_wp2_with fail
  refine hK.out _ _ ?_ (fun hHeld => ?_)
  · trivial
  clear hK K
  try simp only [Act.put, List.getElem_toArray, List.getElem_cons_succ, List.getElem_cons_zero]
  try simp only [List.setIfInBounds_toArray, List.set_cons_zero, List.set_cons_succ]
  refine take_at (i := 6) (d := 17) (v := ?_) rfl rfl (by kernel_rfl) (by kernel_rfl) (by kernel_rfl) (fun _ _ _ h => h) (Or.inl ⟨by rfl, by intro w' hSw; (try dsimp only at hSw); go_simp; try with_reducible rfl⟩) (by assumption) ?_
  simp only [List.setIfInBounds_toArray, List.set_cons_zero, List.set_cons_succ]
  refine take_at (i := 7) (d := 18) (v := ?_) rfl rfl (by kernel_rfl) (by kernel_rfl) (by kernel_rfl) (fun _ _ _ h => h) (Or.inl ⟨by rfl, by intro w' hSw; (try dsimp only at hSw); go_simp; try with_reducible rfl⟩) (by assumption) ?_
  simp only [List.setIfInBounds_toArray, List.set_cons_zero, List.set_cons_succ]
  refine take_at (i := 8) (d := 19) (v := ?_) rfl rfl (by kernel_rfl) (by kernel_rfl) (by kernel_rfl) (fun _ _ _ h => h) (Or.inl ⟨by rfl, by intro w' hSw; (try dsimp only at hSw); go_simp; try with_reducible rfl⟩) (by assumption) ?_
  simp only [List.setIfInBounds_toArray, List.set_cons_zero, List.set_cons_succ]
  refine take_at (i := 9) (d := 20) (v := ?_) rfl rfl (by kernel_rfl) (by kernel_rfl) (by kernel_rfl) (fun _ _ _ h => h) (Or.inl ⟨by rfl, by intro w' hSw; (try dsimp only at hSw); go_simp; try with_reducible rfl⟩) (by assumption) ?_
  simp only [List.setIfInBounds_toArray, List.set_cons_zero, List.set_cons_succ]
  refine take_at (i := 10) (d := 21) (v := ?_) rfl rfl (by kernel_rfl) (by kernel_rfl) (by kernel_rfl) (fun _ _ _ h => h) (Or.inl ⟨by rfl, by intro w' hSw; (try dsimp only at hSw); go_simp; try with_reducible rfl⟩) (by assumption) ?_
  simp only [List.setIfInBounds_toArray, List.set_cons_zero, List.set_cons_succ]
  refine take_at (i := 11) (d := 22) (v := ?_) rfl rfl (by kernel_rfl) (by kernel_rfl) (by kernel_rfl) (fun _ _ _ h => h) (Or.inl ⟨by rfl, by intro w' hSw; (try dsimp only at hSw); go_simp; try with_reducible rfl⟩) (by assumption) ?_
  simp only [List.setIfInBounds_toArray, List.set_cons_zero, List.set_cons_succ]
  refine take_at (i := 12) (d := 23) (v := ?_) rfl rfl (by kernel_rfl) (by kernel_rfl) (by kernel_rfl) (fun _ _ _ h => h) (Or.inl ⟨by rfl, by intro w' hSw; (try dsimp only at hSw); go_simp; try with_reducible rfl⟩) (by assumption) ?_
  simp only [List.setIfInBounds_toArray, List.set_cons_zero, List.set_cons_succ]
  refine wpAnyH_ready (rs := [13, 14]) (by kernel_rfl) (by simp) ?_
  refine AllReadyH.cons rfl (fun K hK => ?_) (AllReadyH.cons rfl (fun K hK => ?_) (AllReadyH.nil))
  · skip
    go_simp
    have HCH := Lib.hid (chain_head w2.heap.size p [] _ (HC4.out.below HBX.out))
    refine HCH.out.mono ?_
    rintro e wx ⟨ha, hc, rfl, hr⟩
    rw [headC_len] at hr ⊢
    have HBX := Lib.hid (below_step HBX.out hr.2.1)
    have HIH : Hid (IntsAt .u8 wx ha (List.replicate 32 0)) := Lib.hid (by have h := hr.1; rw [headC_len] at h; exact (owns_at h).2.1)
    try have HJ := Lib.hid (ints_below HJ.out hr.2.1)
    clear hr HCH
    dsimp only
    go_wp2_with fail
    refine hK.out _ _ ?_ (fun hHeld => ?_)
    · trivial
    clear hK K
    try simp only [Act.put, List.getElem_toArray, List.getElem_cons_succ, List.getElem_cons_zero]
    try simp only [List.setIfInBounds_toArray, List.set_cons_zero, List.set_cons_succ]
    refine wpAnyH_ready (rs := [14]) (by kernel_rfl) (by simp) ?_
    refine AllReadyH.cons rfl (fun K hK => ?_) AllReadyH.nil
    go_simp
    obtain ⟨nb, hnb⟩ : ∃ nb, nb = wx.heap.size := ⟨_, rfl⟩
    have hbn : Below wx.heap.size wx (wx.alloc (.cells (madeCells #[.int .u8 0] 32) 5)) := (Below.refl _ _).alloc (Nat.le_refl _) _
    have HBX := Lib.hid (below_step HBX.out hbn)
    try have HIH := Lib.hid (ints_below HIH.out hbn)
    have HJ : Hid (IntsAt .u8 (wx.alloc (.cells (madeCells #[.int .u8 0] 32) 5)) (some ⟨nb, 0, none⟩) (List.replicate 32 0)) := Lib.hid (by rw [hnb]; exact ints_made (w := wx) 32)
    rw [← hnb]
    generalize wx.alloc (.cells (madeCells #[.int .u8 0] 32) 5) = wy at *
    clear hbn hnb
    rename World => wx
    go_wp2_with fail
    refine hK.out _ _ ?_ (fun hHeld => ?_)
    · trivial
    clear hK K
    try simp only [Act.put, List.getElem_toArray, List.getElem_cons_succ, List.getElem_cons_zero]
    try simp only [List.setIfInBounds_toArray, List.set_cons_zero, List.set_cons_succ]
    refine wpAnyH_ready (rs := [15]) (by kernel_rfl) (by simp) ?_
    refine AllReadyH.cons rfl (fun K hK => ?_) AllReadyH.nil
    go_simp
    have HBE := Lib.hid (bytes_eq ha (some ⟨nb, 0, none⟩) (List.replicate 32 0) (List.replicate 32 0) 32 32 hc 32 wx rfl rfl HIH.out HJ.out (inB_zeros 32) (inB_zeros 32))
    rw [eqB_self] at HBE
    refine HBE.out.mono ?_
    rintro e w9 ⟨rfl, rfl⟩
    dsimp only
    go_wp2_with fail
    refine hK.out _ _ ?_ (fun hHeld => ?_)
    · trivial
    clear hK K
    try simp only [Act.put, List.getElem_toArray, List.getElem_cons_succ, List.getElem_cons_zero]
    try simp only [List.setIfInBounds_toArray, List.set_cons_zero, List.set_cons_succ]
    refine take_at (i := 16) (d := 27) (v := ?_) rfl rfl (by kernel_rfl) (by kernel_rfl) (by kernel_rfl) (fun _ _ _ h => h) (Or.inl ⟨by rfl, by intro w' hSw; (try dsimp only at hSw); go_simp; try with_reducible rfl⟩) (by assumption) ?_
    simp only [List.setIfInBounds_toArray, List.set_cons_zero, List.set_cons_succ]
    refine take_at (i := 17) (d := 0) (v := ?_) rfl rfl (by kernel_rfl) (by kernel_rfl) (by kernel_rfl) (fun _ _ _ h => h) (Or.inl ⟨by rfl, by intro w' hSw; (try dsimp only at hSw); go_simp; try with_reducible rfl⟩) (by assumption) ?_
    simp only [List.setIfInBounds_toArray, List.set_cons_zero, List.set_cons_succ]
    refine wpAnyH_done (by kernel_rfl) ?_ _
    go_wp2
    go_ret
    exact ⟨rfl, below_step HB4.out HBX.out⟩
  · skip
    go_simp
    obtain ⟨nb, hnb⟩ : ∃ nb, nb = wx.heap.size := ⟨_, rfl⟩
    have hbn : Below wx.heap.size wx (wx.alloc (.cells (madeCells #[.int .u8 0] 32) 5)) := (Below.refl _ _).alloc (Nat.le_refl _) _
    have HBX := Lib.hid (below_step HBX.out hbn)
    try have HIH := Lib.hid (ints_below HIH.out hbn)
    have HJ : Hid (IntsAt .u8 (wx.alloc (.cells (madeCells #[.int .u8 0] 32) 5)) (some ⟨nb, 0, none⟩) (List.replicate 32 0)) := Lib.hid (by rw [hnb]; exact ints_made (w := wx) 32)
    rw [← hnb]
    generalize wx.alloc (.cells (madeCells #[.int .u8 0] 32) 5) = wy at *
    clear hbn hnb
    rename World => wx
    go_wp2_with fail
    refine hK.out _ _ ?_ (fun hHeld => ?_)
    · trivial
    clear hK K
    try simp only [Act.put, List.getElem_toArray, List.getElem_cons_succ, List.getElem_cons_zero]
    try simp only [List.setIfInBounds_toArray, List.set_cons_zero, List.set_cons_succ]
    refine wpAnyH_ready (rs := [13]) (by kernel_rfl) (by simp) ?_
    refine AllReadyH.cons rfl (fun K hK => ?_) AllReadyH.nil
    go_simp
    have HCH := Lib.hid (chain_head w2.heap.size p [] _ (HC4.out.below HBX.out))
    refine HCH.out.mono ?_
    rintro e wx ⟨ha, hc, rfl, hr⟩
    rw [headC_len] at hr ⊢
    have HBX := Lib.hid (below_step HBX.out hr.2.1)
    have HIH : Hid (IntsAt .u8 wx ha (List.replicate 32 0)) := Lib.hid (by have h := hr.1; rw [headC_len] at h; exact (owns_at h).2.1)
    try have HJ := Lib.hid (ints_below HJ.out hr.2.1)
    clear hr HCH
    dsimp only
    go_wp2_with fail
    refine hK.out _ _ ?_ (fun hHeld => ?_)
    · trivial
    clear hK K
    try simp only [Act.put, List.getElem_toArray, List.getElem_cons_succ, List.getElem_cons_zero]
    try simp only [List.setIfInBounds_toArray, List.set_cons_zero, List.set_cons_succ]
    refine wpAnyH_ready (rs := [15]) (by kernel_rfl) (by simp) ?_
    refine AllReadyH.cons rfl (fun K hK => ?_) AllReadyH.nil
    go_simp
    have HBE := Lib.hid (bytes_eq ha (some ⟨nb, 0, none⟩) (List.replicate 32 0) (List.replicate 32 0) 32 32 hc 32 wx rfl rfl HIH.out HJ.out (inB_zeros 32) (inB_zeros 32))
    rw [eqB_self] at HBE
    refine HBE.out.mono ?_
    rintro e w9 ⟨rfl, rfl⟩
    dsimp only
    go_wp2_with fail
    refine hK.out _ _ ?_ (fun hHeld => ?_)
    · trivial
    clear hK K
    try simp only [Act.put, List.getElem_toArray, List.getElem_cons_succ, List.getElem_cons_zero]
    try simp only [List.setIfInBounds_toArray, List.set_cons_zero, List.set_cons_succ]
    refine take_at (i := 16) (d := 27) (v := ?_) rfl rfl (by kernel_rfl) (by kernel_rfl) (by kernel_rfl) (fun _ _ _ h => h) (Or.inl ⟨by rfl, by intro w' hSw; (try dsimp only at hSw); go_simp; try with_reducible rfl⟩) (by assumption) ?_
    simp only [List.setIfInBounds_toArray, List.set_cons_zero, List.set_cons_succ]
    refine take_at (i := 17) (d := 0) (v := ?_) rfl rfl (by kernel_rfl) (by kernel_rfl) (by kernel_rfl) (fun _ _ _ h => h) (Or.inl ⟨by rfl, by intro w' hSw; (try dsimp only at hSw); go_simp; try with_reducible rfl⟩) (by assumption) ?_
    simp only [List.setIfInBounds_toArray, List.set_cons_zero, List.set_cons_succ]
    refine wpAnyH_done (by kernel_rfl) ?_ _
    go_wp2
    go_ret
    exact ⟨rfl, below_step HB4.out HBX.out⟩

set_option maxHeartbeats 1000000 in
theorem rdone0 (p : Nat) (ao : Option Addr) (cap : Nat) (bs : List Int) (w : World) (h : EncAt 105 w p (.slice ao bs.length cap) bs 0) :
    Calls Try.prog 77 #[.pointer (some ⟨p, 0, none⟩)] w fun en w' => en = .returned (.tuple #[.slice ao bs.length cap, .int .i64 0]) ∧ Below w.heap.size w w' := by
  obtain ⟨hp, hown, hne⟩ := h
  have c0 := blk_cell hp 0
  have c1 := blk_cell hp 1
  simp only [List.getElem?_toArray, List.getElem?_cons_zero, List.getElem?_cons_succ] at c0 c1
  clear hp hown hne
  go_enter Try.func77, Try.ntmps77
  go_wp2
  go_ret2
  exact ⟨rfl, by repeat (first | exact Below.refl _ _ | exact Keeps.below ((Keeps.refl (fun _ => False) _).drewN _) (Nat.le_refl _) (fun _ f => f.elim))⟩
set_option maxRecDepth 100000 in
set_option maxHeartbeats 4000000 in
theorem rexportC_any (ao : Option Addr) (es : List EV) (n c : Nat) (w : World) (hn : es.length = n) (h : EntAt w ao es) (hcap : n ≤ c) (hcm : c ≤ maxLen) (hm : n ≤ 1000) (hs : (bodyC (ersL es)).length ≤ 400000) :
    Calls Try.prog 42 #[.slice ao n c] w fun e w' => RowPost2 w (exportF (ersL es)).1 (exportF (ersL es)).2 e w' := by
  have HN := Lib.hid hn
  have HE := Lib.hid h
  have HM := Lib.hid hm
  have HS := Lib.hid hs
  have HC := Lib.hid (And.intro hcap hcm)
  clear hn h hcap hcm hm hs
  go_enter Try.func42, Try.ntmps42
  go_wp2_with fail
  go_loopw [4] (fun i wr => ∃ k : Nat, k ≤ n ∧ i = .int .i64 (k : Int) ∧ Below w.heap.size w wr ∧ ∀ j (hj : j < es.length), j < k → (es[j]).er.ok) (fun i _ => n - (intOf i).toNat)
  case atStart => exact ⟨0, by omega, rfl, Below.refl _ _, fun j hj h => by omega⟩
  case round =>
    obtain ⟨k, hk, rfl, hb, hall⟩ := hrel
    have HB := Lib.hid hb
    have HAL := Lib.hid hall
    have HES := Lib.hid (HE.out.below hb)
    clear hb hall
    by_cases hlt : k < n
    · have i1 : (k : Int) < (n : Int) := by omega
      have hkb : k < es.length := by rw [HN.out]; exact hlt
      obtain ⟨b, off, rfl, c0, c1⟩ := HES.out.at k hkb
      have HFB := Lib.hid (fun hb => firstBad_at (ersL es) k (by rw [ersL_len]; exact hkb) (fun j hj hjk => by
        have h := HAL.out j (by rw [ersL_len] at hj; exact hj) hjk
        simpa [ersL] using h) hb)
      rw [show (ersL es)[k]'(by rw [ersL_len]; exact hkb) = es[k].er by simp [ersL]] at HFB
      have HAK : Hid (∀ (h : es[k].er.ok) j (hj : j < es.length), j < k + 1 → (es[j]).er.ok) := Lib.hid (fun h j hj hjk => by
        by_cases e : j = k
        · subst e; exact h
        · exact HAL.out j hj (by omega))
      obtain ⟨m, hm⟩ : ∃ m, m = es[k].b.length := ⟨_, rfl⟩
      rw [← hm] at c1
      have HBD := Lib.hid (bad_any es[k].er es[k].ao m es[k].c wr hm.symm)
      generalize es[k] = ek at *
      unfold EV.er at HBD HFB HAK
      try dsimp only at HBD HFB HAK
      have w2 : wrap64 ((k : Int) + 1) = ((k + 1 : Nat) : Int) := by have := HM.out; unfold wrap64; omega
      have HW2 := Lib.hid w2
      clear hm w2
      go_wp2_with fail
      with_reducible refine HBD.out.mono ?_
      rintro e w2 ⟨rfl, hb2⟩
      have HB2 : Hid (Below w.heap.size w w2) := Lib.hid (below_step HB.out hb2)
      clear hb2 HBD
      by_cases hbad : badF { k := ek.k, b := ek.b } = 0
      case neg =>
        have hb : (badF { k := ek.k, b := ek.b } == 0) = false := by simp [hbad]
        have hb' : (badF { k := ek.k, b := ek.b } != 0) = true := by simp [hbad]
        have HR : Hid (exportF (ersL es) = ([], badF { k := ek.k, b := ek.b })) := Lib.hid (by unfold exportF; rw [HFB.out hbad, if_neg hbad])
        clear hbad
        generalize badF { k := ek.k, b := ek.b } = B at *
        go_wp2
        go_ret2
        rw [HR.out]
        exact ⟨none, 0, rfl, World.ownsRow_nil _ _ _ _, HB2.out, fun g (hg : (Value.slice none 0 0).ownBlock = some g) => by cases hg⟩
      have HOK : Hid (ER.ok { k := ek.k, b := ek.b }) := Lib.hid ((badF_ok _).1 hbad)
      rw [hbad]
      clear hbad HFB
      have hb0 : ((0 : Int) != 0) = false := rfl
      go_wp2
      rw [HW2.out]
      refine ⟨⟨k + 1, by omega, rfl, HB2.out, HAK.out HOK.out⟩, ?_⟩
      simp only [intOf]; omega
    · obtain rfl : k = n := by omega
      obtain ⟨wE, hwE⟩ : ∃ wE, wE = wr := ⟨_, rfl⟩
      subst hwE
      have i1 : ¬ (k : Int) < (k : Int) := by omega
      have hbig : ¬ (65535 : Int) < (k : Int) := by have := HM.out; omega
      have HOKS : Hid (∀ e ∈ es, e.er.ok) := Lib.hid (fun e he => by
        obtain ⟨j, hj, rfl⟩ := List.getElem_of_mem he
        exact HAL.out j hj (by rw [HN.out] at hj; exact hj))
      have HR : Hid (exportF (ersL es) = (headC (ersL es) ++ putB k 2 ++ bodyC (ersL es), 0)) := Lib.hid (by
        have h1 : firstBad (ersL es) = 0 := (firstBad_ok _).2 (fun e he => by
          obtain ⟨x, hx, rfl⟩ := List.mem_map.1 he
          exact HOKS.out x hx)
        unfold exportF
        rw [if_pos h1, if_neg (by rw [ersL_len, HN.out]; have := HM.out; omega), ersL_len, HN.out])
      have HHL := Lib.hid (headC_len (ersL es))
      clear hlt hk
      obtain ⟨w2, hw2⟩ : ∃ w2, w2 = wE.alloc (.cells #[.slice none 0 0, .int .i64 0] 105) := ⟨_, rfl⟩
      have HE2 := Lib.hid (EI.start 105 wE)
      rw [← hw2] at HE2
      have HW2 := Lib.hid hw2
      have HB2 := Lib.hid (HE2.out.below)
      generalize hp : wE.heap.size = p at HE2
      have HPE := Lib.hid hp
      clear hp hw2
      go_upto_region 10 with fail
      rw [← HW2.out, HPE.out]
      have HHD := Lib.hid (rheadC_any ao es k c w2 HN.out (HES.out.below HB2.out) HOKS.out HC.out.1 HC.out.2 (by have := HM.out; omega))
      go_wp2_with fail
      refine HHD.out.mono ?_
      rintro e w3 ⟨ha, hc, rfl, hr3⟩
      rw [HHL.out] at hr3 ⊢
      have HE3 := Lib.hid (HE2.out.later hr3.2.1)
      have HI3 : Hid (IntsAt .u8 w3 ha (headC (ersL es))) := Lib.hid (by have h := hr3.1; rw [HHL.out] at h; exact (owns_at h).2.1)
      clear hr3 HHD HE2
      have HC3 := Lib.hid (HE3.out.raw ha (headC (ersL es)) 32 hc HHL.out HI3.out (by simp))
      rw [List.nil_append] at HC3
      go_wp2_with fail
      refine HC3.out.mono ?_
      rintro e w4 ⟨rfl, he⟩
      have HE4 := Lib.hid he
      clear he HC3 HE3 HI3
      have HC4 := Lib.hid (HE4.out.rnum (k : Int) 2 (by rw [HHL.out]; omega))
      rw [show refNum (headC (ersL es)) 0 (k : Int) 2 = (headC (ersL es) ++ putB k 2, 0) from refNum_ok (headC (ersL es)) (k : Int) 2 (by omega) (by omega) (by have := HM.out; omega)] at HC4
      go_wp2_with fail
      refine HC4.out.mono ?_
      rintro e w5 ⟨rfl, he⟩
      have HE5 := Lib.hid he
      clear he HC4 HE4
      go_wp2_with fail
      have HDL : Hid ((headC (ersL es) ++ putB (k : Int) 2).length = 34) := Lib.hid (by rw [List.length_append, HHL.out, putB_length])
      generalize headC (ersL es) ++ putB (k : Int) 2 = D at *
      go_loopw [7] (fun i wq => ∃ q : Nat, q ≤ k ∧ i = .int .i64 (q : Int) ∧ EI 105 wE p (D ++ bodyC ((ersL es).take q)) 0 wq) (fun i _ => k - (intOf i).toNat)
      case atStart => exact ⟨0, by omega, rfl, by rw [List.take_zero]; simpa [bodyC] using HE5.out⟩
      case round =>
        obtain ⟨q, hq, rfl, he⟩ := hrel
        have HEQ := Lib.hid he
        have HBQ := Lib.hid he.below
        clear he
        by_cases hlt : q < k
        · have i1 : (q : Int) < (k : Int) := by omega
          have hkb : q < es.length := by rw [HN.out]; exact hlt
          have HEX := Lib.hid (HES.out.below HBQ.out)
          obtain ⟨b, off, rfl, _, _⟩ := HEX.out.at q hkb
          have HX := Lib.hid (HES.out.2 es[q] (List.getElem_mem hkb))
          have HCL := Lib.hid (fun (wx : World) (hb : Below wE.heap.size wE wx) => (HES.out.below hb).off q hkb)
          have HXK := Lib.hid (HOKS.out es[q] (List.getElem_mem hkb))
          have HSU := Lib.hid (ersL_succ es q hkb)
          have HTA := Lib.hid (bodyC_take_le (ersL es) q)
          obtain ⟨m, hm⟩ : ∃ m, m = es[q].b.length := ⟨_, rfl⟩
          rw [← hm] at HCL
          have HMM : Hid (es[q].b.length = m) := Lib.hid hm.symm
          have HBS : Hid (bodyC ((ersL es).take (q + 1)) = bodyC ((ersL es).take q) ++ (putB es[q].k 1 ++ putB m 4 ++ es[q].b)) := Lib.hid (by rw [HSU.out, bodyC_snoc, hm]; rfl)
          have HML : Hid (m ≤ 60000) := Lib.hid (by have := HXK.out.2; rw [hm]; exact this)
          generalize es[q] = ek at *
          have w2 : wrap64 ((q : Int) + 1) = ((q + 1 : Nat) : Int) := by have := HM.out; unfold wrap64; omega
          have HWQ := Lib.hid w2
          clear hm w2
          have HZL : Hid ((D ++ bodyC ((ersL es).take q)).length ≤ 400034) := Lib.hid (by rw [List.length_append, HDL.out]; have := HTA.out; have := HS.out; omega)
          generalize hZ : D ++ bodyC ((ersL es).take q) = Z at *
          have HZZ := Lib.hid hZ
          clear hZ
          have HC1 := Lib.hid (HEQ.out.rnum ek.k 1 (by have := HZL.out; omega))
          rw [show refNum Z 0 ek.k 1 = (Z ++ putB ek.k 1, 0) from refNum_ok Z ek.k 1 (by omega) HXK.out.1.1 (by have h : ek.k ≤ 255 := HXK.out.1.2; omega)] at HC1
          obtain ⟨c0, c1⟩ := HCL.out wr HBQ.out
          go_wp2_with fail
          refine HC1.out.mono ?_
          rintro e w6 ⟨rfl, he⟩
          have HE6 := Lib.hid he
          have HB6 := Lib.hid he.below
          clear he HC1 HEQ c0 c1
          have HC2 := Lib.hid (HE6.out.rnum (m : Int) 4 (by rw [List.length_append, putB_length]; have := HZL.out; omega))
          rw [show refNum (Z ++ putB ek.k 1) 0 (m : Int) 4 = (Z ++ putB ek.k 1 ++ putB (m : Int) 4, 0) from refNum_ok (Z ++ putB ek.k 1) (m : Int) 4 (by omega) (by omega) (by have := HML.out; omega)] at HC2
          obtain ⟨c0, c1⟩ := HCL.out w6 HB6.out
          go_wp2_with fail
          refine HC2.out.mono ?_
          rintro e w7 ⟨rfl, he⟩
          have HE7 := Lib.hid he
          have HB7 := Lib.hid he.below
          clear he HC2 HE6 c0 c1
          have HC3 := Lib.hid (HE7.out.raw ek.ao ek.b m ek.c HMM.out (ints_below HX.out.1 HB7.out) (by rw [List.length_append, List.length_append, putB_length, putB_length]; have := HZL.out; have := HML.out; omega))
          obtain ⟨c0, c1⟩ := HCL.out w7 HB7.out
          go_wp2_with fail
          refine HC3.out.mono ?_
          rintro e w8 ⟨rfl, he⟩
          have HE8 : Hid (EI 105 wE p (D ++ bodyC ((ersL es).take (q + 1))) 0 w8) := Lib.hid (by rw [HBS.out, ← List.append_assoc, HZZ.out, ← List.append_assoc, ← List.append_assoc]; exact he)
          clear he HC3 HE7 c0 c1
          go_wp2_with fail
          try rw [HWQ.out]
          refine ⟨⟨q + 1, by omega, rfl, HE8.out⟩, ?_⟩
          simp only [intOf]; omega
        · obtain rfl : q = k := by omega
          have i1 : ¬ (q : Int) < (q : Int) := by omega
          have HTK := Lib.hid (show (ersL es).take q = ersL es from List.take_of_length_le (by rw [ersL_len, HN.out]; exact Nat.le_refl _))
          rw [HTK.out] at HEQ
          clear hlt hq
          obtain ⟨v, h1, h2, h3, h4⟩ := HEQ.out
          obtain ⟨va, vc, rfl⟩ := enc_form h1
          have HDN := Lib.hid (rdone0 p va vc _ wr h1)
          have HB9 := Lib.hid (below_step HB.out h2)
          have HRW := Lib.hid h1.2.1
          have HFW : Hid (∀ g, (Value.slice va (D ++ bodyC (ersL es)).length vc).ownBlock = some g → w.heap.size ≤ g) := Lib.hid (fun g hg => Nat.le_trans HB.out.size (h4 g hg))
          clear h1 h2 h3 h4
          generalize D ++ bodyC (ersL es) = Z at *
          go_wp2_with fail
          refine HDN.out.mono ?_
          rintro e w9 ⟨rfl, hb9⟩
          have HP : Hid (RowAt w (.slice va Z.length vc) Z w9) := Lib.hid ⟨ownsRow_same HRW.out (fun g hg => hb9.block g (HRW.out.lt g hg).2), below_step HB9.out hb9, HFW.out⟩
          clear hb9 HDN
          go_wp2
          go_ret2
          rw [HR.out]
          exact ⟨va, vc, rfl, HP.out⟩

end Go.Proofs.Ytbhoakohpfdeoaa
