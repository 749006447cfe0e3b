/- ChainGrows is true for every input, and its arguments read behind the call as before; no condition: the walk. -/
import Derived.Test.YtbhoakohpfdeoaaChE
import Derived.Test.YtbhoakohpfdeoaaChF
namespace Go.Proofs.Ytbhoakohpfdeoaa
open Go.RowKit
set_option linter.unusedVariables false
set_option linter.unusedSimpArgs false

theorem EntS.take {S : Nat → Prop} {w : World} {ao : Option Addr} {es : List EV} (h : EntS S w ao es) (k : Nat) : EntS S w ao (es.take k) := by
  refine ⟨?_, fun e he => h.2 e (List.mem_of_mem_take he)⟩
  rcases h.1 with h0 | ⟨b, off, h1, h2, h3⟩
  · rw [h0]; exact Or.inl (by simp)
  · refine Or.inr ⟨b, off, h1, h2, fun i hi => ?_⟩
    rw [List.length_take] at hi
    have h4 := h3 i (by omega)
    rw [List.getElem_take]
    exact h4
theorem wrapEq (x : Int) : IntKind.i64.wrap x = wrap64 x := by simp only [IntKind.wrap_i64, wrap64]
theorem entAt_off {w : World} {ao : Option Addr} {es : List EV} (h : EntAt w ao es) (b off : Nat) (ha : ao = some ⟨b, off, none⟩) (i : Nat) (hi : i < es.length) : w.cell? ⟨b, off + i * 2, none⟩ = some (.int .i64 es[i].k) ∧ w.cell? ⟨b, off + i * 2 + 1, none⟩ = some (.slice es[i].ao es[i].b.length es[i].c) := by
  subst ha; exact h.off i hi
theorem slice_eh (ro : Option Addr) (q rc hi : Nat) (h2 : hi ≤ rc) (w : World) :
    (Instr.slice 22 (.slice ro q rc) none (some (.int .i64 (hi : Int))) none).run Try.prog w = .ok (.slice ro hi rc) w := by
  have hu := Try.underlying22
  cases ro with
  | none => simp [go_sem, hu, h2]
  | some a => simp [go_sem, hu, h2, Addr.add]
theorem few22_facts {es : List EV} (h : fewB (es.map (fun e => e.b.length)) 100 100000 = true) : es.length ≤ 100 ∧ (bodyC (ersL es)).length ≤ 100500 := by
  obtain ⟨h1, h2⟩ := few_facts _ _ _ h
  rw [List.length_map] at h1
  refine ⟨h1, ?_⟩
  rw [bodyC_len, ersL_len]
  have : sumC (ersL es) = (es.map (fun e => e.b.length)).sum := by unfold sumC ersL; rw [List.map_map]; rfl
  omega
theorem St.two {W w w' : World} {tb p : Nat} (h : St W tb w) (hp : W.heap.size ≤ p) (hk : Keeps (fun i => i = tb ∨ i = p) w w') (ht : TabOk w' tb) : St W tb w' :=
  ⟨ht, below_fp h.bel hk (fun i hi => by have := h.own; omega), h.own⟩
theorem export_good {l : List ER} (h : ∀ e ∈ l, e.ok) (hl : l.length ≤ 65535) : exportF l = (headC l ++ putB l.length 2 ++ bodyC l, 0) := by
  unfold exportF
  rw [if_pos ((firstBad_ok l).2 h), if_neg (by omega)]
/-- The table's and a chain's types. -/
theorem two_ty {w : World} {tb p : Nat} {l : List ER} (ht : TabOk w tb) (hc : CI tb w p l) : ∀ i, (i = tb ∨ i = p) → ∃ T', TyAt w i T' ∧ 5 ≠ T' := fun i hi => by
  rcases hi with e | e
  · exact ⟨_, e ▸ ht.ty, by decide⟩
  · exact ⟨_, e ▸ hc.ty, by decide⟩

set_option maxRecDepth 100000 in
set_option maxHeartbeats 4000000 in
theorem walk_chainGrows (W : World) (ao : Option Addr) (es : List EV) (n c : Nat) (hn : es.length = n) (h : EntAt W ao es) (hcap : n ≤ c) (hcm : c ≤ maxLen) :
    Calls Try.prog 3 #[.slice ao n c] W fun e w' => e = .returned (.bool true) ∧ Below W.heap.size W w' := by
  have HN := Lib.hid hn
  have HE := Lib.hid h
  have HC := Lib.hid (And.intro hcap hcm)
  clear hn h hcap hcm
  go_enter Try.func3, Try.ntmps3
  go_wp2_with fail
  refine (first22_any W).mono ?_
  rintro e w1 ⟨rfl, hb1⟩
  have HB1 := Lib.hid hb1
  clear hb1
  have HF := Lib.hid (few22_any ao es n c w1 HN.out (HE.out.below HB1.out) HC.out.1 HC.out.2)
  have HFF := Lib.hid (@few22_facts es)
  generalize fewB (es.map (fun e => e.b.length)) 100 100000 = F at *
  go_wp2_with fail
  refine HF.out.mono ?_
  rintro e w9 ⟨rfl, rfl⟩
  cases F with
  | false =>
    go_wp2_with fail
    refine (first22_any w1).mono ?_
    rintro e w2 ⟨rfl, hb2⟩
    have HB2 := Lib.hid (below_step HB1.out hb2)
    clear hb2
    go_wp2
    go_ret
    exact ⟨rfl, HB2.out⟩
  | true =>
  have HFS := Lib.hid (HFF.out rfl)
  clear HF HFF
  by_cases h50 : (50 : Int) < (n : Int)
  · go_wp2_with fail
    refine (first22_any w1).mono ?_
    rintro e w2 ⟨rfl, hb2⟩
    have HB2 := Lib.hid (below_step HB1.out hb2)
    clear hb2
    go_wp2
    go_ret
    exact ⟨rfl, HB2.out⟩
  have HN50 : Hid (n ≤ 50) := Lib.hid (by omega)
  go_wp2_with fail
  refine (newTable_any w1).mono ?_
  rintro e w2 ⟨rfl, ht2, hb2⟩
  have HS2 : Hid (St W w1.heap.size w2) := Lib.hid ⟨ht2, below_step HB1.out hb2, HB1.out.size⟩
  clear ht2 hb2 HB1 h50
  generalize w1.heap.size = tb at *
  have HCN := Lib.hid (chain_new tb w2 HS2.out.tab)
  go_wp2_with fail
  refine HCN.out.mono ?_
  rintro e w3 ⟨p, rfl, ht3, hc3, hb3, hp3⟩
  have HS3 := Lib.hid (HS2.out.below hb3)
  have HC3 := Lib.hid hc3
  have HPW : Hid (W.heap.size ≤ p) := Lib.hid (Nat.le_trans HS2.out.bel.size hp3)
  clear ht3 hc3 hb3 hp3 HCN HS2
  go_wp2_with fail
  go_loopw [5] (fun i wr => ∃ k : Nat, k ≤ n ∧ i = .int .i64 (k : Int) ∧ St W tb wr ∧ CI tb wr p (ersL (es.take k)) ∧ ∀ j (hj : j < es.length), j < k → (es[j]).er.ok) (fun i _ => n - (intOf i).toNat)
  case atStart => exact ⟨0, by omega, rfl, HS3.out, HC3.out, fun j hj h => by omega⟩
  case round =>
    obtain ⟨k, hk, rfl, hs, hc, hall⟩ := hrel
    have HS := Lib.hid hs
    have HCI := Lib.hid hc
    have HAL := Lib.hid hall
    clear hs hc hall
    by_cases hlt : k < n
    · have i1 : (k : Int) < (n : Int) := by omega
      have hkb : k < es.length := by rw [HN.out]; exact hlt
      have HKN : Hid (k < n) := Lib.hid hlt
      have HH1 := Lib.hid (chain_head tb p (ersL (es.take k)) wr HCI.out)
      have HCL := Lib.hid (fun (wx : World) (hs : St W tb wx) => (HE.out.below hs.bel).at k hkb)
      have HCO := Lib.hid (fun (wx : World) (hb : Below W.heap.size W wx) (b off : Nat) (ha : ao = some ⟨b, off, none⟩) => entAt_off (HE.out.below hb) b off ha k hkb)
      have HXW := Lib.hid (HE.out.2 es[k] (List.getElem_mem hkb))
      have HSU := Lib.hid (ersL_succ es k hkb)
      rw [← ersL_take, ← ersL_take] at HSU
      have HAK : Hid (∀ (h : es[k].er.ok) j (hj : j < es.length), j < k + 1 → (es[j]).er.ok) := Lib.hid (fun h j hj hjk => by
        by_cases e : j = k
        · subst e; exact h
        · exact HAL.out j hj (by omega))
      have HBTA := Lib.hid (bodyC_take_le (ersL es) (k + 1))
      rw [← ersL_take] at HBTA
      obtain ⟨m, hm⟩ : ∃ m, m = es[k].b.length := ⟨_, rfl⟩
      rw [← hm] at HCL HCO
      have HMM : Hid (es[k].er.b.length = m) := Lib.hid hm.symm
      have HL1 : Hid ((ersL (es.take k)).length = k) := Lib.hid (by rw [ersL_len, List.length_take]; omega)
      have HL2 : Hid ((es.take (k + 1)).length = k + 1) := Lib.hid (by rw [List.length_take]; omega)
      have HTK : Hid (∀ (h : es[k].er.ok), ∀ e ∈ ersL (es.take (k + 1)), e.ok) := Lib.hid (fun h e he => by
        obtain ⟨x, hx, rfl⟩ := List.mem_map.1 he
        obtain ⟨j, hj, rfl⟩ := List.getElem_of_mem hx
        rw [List.length_take] at hj
        rw [List.getElem_take]
        exact HAK.out h j (by omega) (by omega))
      clear hm hlt
      generalize es[k] = ek at *
      go_wp2_with fail
      refine HH1.out.mono ?_
      rintro e w4 ⟨a4, c4, rfl, hr4⟩
      rw [headC_len] at hr4 ⊢
      have HS4 := Lib.hid (HS.out.below hr4.2.1)
      have HC4 := Lib.hid (HCI.out.below hr4.2.1)
      have HO4 : Hid (w4.ownsRow 0 5 1 (.slice a4 32 c4) 32 ((headC (ersL (es.take k))).map (Value.int .u8))) := Lib.hid (by have h := hr4.1; rw [headC_len] at h; exact h)
      clear hr4 HH1 HS HCI
      obtain ⟨b, off, rfl, x0, x1⟩ := HCL.out w4 HS4.out
      have HAD := Lib.hid (chain_add tb p (ersL (es.take k)) ek.er ek.ao m ek.c w4 HS4.out.tab HC4.out HMM.out (ints_below HXW.out.1 HS4.out.bel) HXW.out.2.1 (by rw [HL1.out]; have := HN50.out; have := HKN.out; omega))
      unfold EV.er at HAD
      dsimp only at HAD
      go_wp2_with fail
      with_reducible refine HAD.out.mono ?_
      rintro e w5 ⟨rfl, ht5, ⟨qa, qc, hc5, _⟩, hk5⟩
      have HS5 := Lib.hid (HS4.out.two HPW.out hk5 ht5)
      have HO5 := Lib.hid (hk5.row HO4.out (two_ty HS4.out.tab HC4.out))
      have HC5 : Hid (CI tb w5 p (if badF { k := ek.k, b := ek.b } = 0 then ersL (es.take k) ++ [{ k := ek.k, b := ek.b }] else ersL (es.take k))) := Lib.hid ⟨qa, qc, hc5⟩
      clear ht5 hc5 hk5 HAD HO4 HC4 HS4 x0 x1
      by_cases hbad : badF { k := ek.k, b := ek.b } = 0
      case neg =>
        have hb : (badF { k := ek.k, b := ek.b } == 0) = false := by simp [hbad]
        have hb' : (badF { k := ek.k, b := ek.b } != 0) = true := by simp [hbad]
        rw [if_neg hbad] at HC5
        clear hbad
        have HH2 := Lib.hid (chain_head tb p _ w5 HC5.out)
        go_wp2_with fail
        refine HH2.out.mono ?_
        rintro e w6 ⟨a6, c6, rfl, hr6⟩
        rw [headC_len] at hr6 ⊢
        have HS6 := Lib.hid (HS5.out.below hr6.2.1)
        have HI6 : Hid (IntsAt .u8 w6 a6 (headC (ersL (es.take k)))) := Lib.hid (by have h := hr6.1; rw [headC_len] at h; exact (owns_at h).2.1)
        have HBE := Lib.hid (bytes_eq a4 a6 (headC (ersL (es.take k))) (headC (ersL (es.take k))) 32 32 c4 c6 w6 (headC_len _) (headC_len _) (ints_below (owns_at HO5.out).2.1 hr6.2.1) HI6.out (headC_inB _) (headC_inB _))
        rw [eqB_self] at HBE
        clear hr6
        go_wp2_with fail
        refine HBE.out.mono ?_
        rintro e w7 ⟨rfl, rfl⟩
        rename World => w6
        go_wp2_with fail
        refine (first22_any w6).mono ?_
        rintro e w7 ⟨rfl, hb7⟩
        have HS7 := Lib.hid (HS6.out.below hb7)
        clear hb7
        go_wp2
        go_ret
        exact ⟨rfl, HS7.out.bel⟩
      have HOK : Hid (ek.er.ok) := Lib.hid ((badF_ok _).1 hbad)
      rw [if_pos hbad] at HC5
      rw [hbad]
      clear hbad
      have hc5 : CI tb w5 p (ersL (es.take (k + 1))) := by rw [HSU.out]; exact HC5.out
      have HC5 := Lib.hid hc5
      clear hc5
      have hse : ∀ w, (Instr.slice 22 (.slice (some ⟨b, off, none⟩) n c) none (some (.int .i64 ((k : Int) + 1))) none).run Try.prog w = .ok (.slice (some ⟨b, off, none⟩) (k + 1) c) w := fun w => slice_eh (some ⟨b, off, none⟩) n c (k + 1) (by have := HC.out.1; have := HKN.out; omega) w
      have HL3 : Hid ((ersL (es.take (k + 1))).length = k + 1) := Lib.hid (by rw [ersL_len, HL2.out])
      have HXP := Lib.hid (export_any tb (some ⟨b, off, none⟩) (es.take (k + 1)) (k + 1) c w5 HS5.out.tab HL2.out (((HE.out.ents (S := fun i => i = tb) (fun i hi => by have := HS5.out.own; omega)).below HS5.out.bel).take (k + 1)) (by have := HC.out.1; have := HKN.out; omega) HC.out.2 (by have := HN50.out; have := HKN.out; omega) (by have := HBTA.out; have := HFS.out.2; omega))
      have HXG := Lib.hid (export_good (HTK.out HOK.out) (by rw [HL3.out]; have := HN50.out; have := HKN.out; omega))
      have HDT : Hid ((headC (ersL (es.take (k + 1))) ++ putB (ersL (es.take (k + 1))).length 2 ++ bodyC (ersL (es.take (k + 1)))).take 32 = headC (ersL (es.take (k + 1)))) := Lib.hid (by rw [List.append_assoc, ← headC_len (ersL (es.take (k + 1))), List.take_left])
      have HDL : Hid (34 ≤ (headC (ersL (es.take (k + 1))) ++ putB (ersL (es.take (k + 1))).length 2 ++ bodyC (ersL (es.take (k + 1)))).length) := Lib.hid (by rw [List.length_append, List.length_append, headC_len, putB_length]; omega)
      rw [HXG.out] at HXP
      clear HXG
      generalize headC (ersL (es.take (k + 1))) ++ putB (ersL (es.take (k + 1))).length 2 ++ bodyC (ersL (es.take (k + 1))) = D at *
      obtain ⟨dn, hdn⟩ : ∃ dn, dn = D.length := ⟨_, rfl⟩
      have HDN : Hid (D.length = dn) := Lib.hid hdn.symm
      unfold XPost at HXP
      dsimp only at HXP
      rw [← hdn] at HXP HDL
      clear hdn
      have hb00 : ((0 : Int) != 0) = false := rfl
      go_upto_region 17 with fail
      clear hb00
      go_wp2_with fail
      with_reducible refine HXP.out.mono ?_
      rintro e w6 ⟨a6, c6, rfl, ht6, ho6, hk6, hf6⟩
      have HS6 := Lib.hid (HS5.out.step hk6 ht6)
      have HC6 := Lib.hid (HC5.out.tab HS5.out.tab hk6)
      have HR6 : Hid (w6.ownsRow 0 5 1 (.slice a6 dn c6) dn (D.map (Value.int .u8))) := Lib.hid (by rw [HDN.out] at ho6; exact ho6)
      have HO6 := Lib.hid (hk6.row HO5.out (fun i hi => ⟨_, hi ▸ HS5.out.tab.ty, by decide⟩))
      clear ht6 ho6 hk6 hf6 HXP HC5 HO5
      go_upto_region 18 with fail
      obtain ⟨x0, x1⟩ := HCO.out w6 HS6.out.bel b off rfl
      have hs32 : ∀ w, (Instr.slice 29 (.slice a6 dn c6) none (some (.int .i64 32)) none).run Try.prog w = .ok (.slice a6 32 c6) w := fun w => slice_h a6 dn c6 32 (by have := (owns_at HR6.out).2.2.1; have := HDL.out; omega) w
      have hdn : ¬ (dn : Int) < 34 := by have := HDL.out; omega
      have hw1 : wrap64 ((k : Int) + 1) = (k : Int) + 1 := by have := HN50.out; have := HKN.out; unfold wrap64; omega
      have hne1 : (((k : Int) + 1) != ((k : Int) + 1)) = false := by simp
      have hw2 : IntKind.i64.wrap ((k : Int) + 1) = (k : Int) + 1 := (wrapEq _).trans hw1
      have HHL := Lib.hid (headC_len (ersL (es.take (k + 1))))
      have HNX : Hid (headC (ersL (es.take (k + 1))) = nextC (headC (ersL (es.take k))) { k := ek.k, b := ek.b }) := Lib.hid (by rw [HSU.out, headC_snoc]; rfl)
      have HDI : Hid (InB (headC (ersL (es.take (k + 1))))) := Lib.hid (headC_inB _)
      refine wp_region_held_drew (S := fun w' => w'.cell? ⟨b, off + k * 2, none⟩ = some (.int .i64 ek.k) ∧ w'.cell? ⟨b, off + k * 2 + 1, none⟩ = some (.slice ek.ao m ek.c)) (by kernel_rfl) ?_ (fun hHeld => ?_)
      · exact ⟨x0, x1⟩
      refine take_at (i := 0) (d := 55) (v := ?_) rfl rfl (by kernel_rfl) (by kernel_rfl) (by kernel_rfl) (fun _ _ _ h => h) (Or.inl ⟨by rfl, by intro w' hSw; (try dsimp only at hSw); go_simp; try with_reducible rfl⟩) (by assumption) ?_
      simp only [List.setIfInBounds_toArray, List.set_cons_zero, List.set_cons_succ]
      refine take_at (i := 1) (d := 56) (v := ?_) rfl rfl (by kernel_rfl) (by kernel_rfl) (by kernel_rfl) (fun _ _ _ h => h) (Or.inl ⟨by rfl, by intro w' hSw; (try dsimp only at hSw); go_simp; try with_reducible rfl⟩) (by assumption) ?_
      simp only [List.setIfInBounds_toArray, List.set_cons_zero, List.set_cons_succ]
      refine take_at (i := 2) (d := 57) (v := ?_) rfl rfl (by kernel_rfl) (by kernel_rfl) (by kernel_rfl) (fun _ _ _ h => h) (Or.inl ⟨by rfl, by intro w' hSw; (try dsimp only at hSw); go_simp; try with_reducible rfl⟩) (by assumption) ?_
      simp only [List.setIfInBounds_toArray, List.set_cons_zero, List.set_cons_succ]
      refine take_at (i := 3) (d := 58) (v := ?_) rfl rfl (by kernel_rfl) (by kernel_rfl) (by kernel_rfl) (fun _ _ _ h => h) (Or.inl ⟨by rfl, by intro w' hSw; (try dsimp only at hSw); go_simp; try with_reducible rfl⟩) (by assumption) ?_
      simp only [List.setIfInBounds_toArray, List.set_cons_zero, List.set_cons_succ]
      refine take_at (i := 4) (d := 59) (v := ?_) rfl rfl (by kernel_rfl) (by kernel_rfl) (by kernel_rfl) (fun _ _ _ h => h) (Or.inl ⟨by rfl, by intro w' hSw; (try dsimp only at hSw); go_simp; try with_reducible rfl⟩) (by assumption) ?_
      simp only [List.setIfInBounds_toArray, List.set_cons_zero, List.set_cons_succ]
      refine take_at (i := 5) (d := 60) (v := ?_) rfl rfl (by kernel_rfl) (by kernel_rfl) (by kernel_rfl) (fun _ _ _ h => h) (Or.inl ⟨by rfl, by intro w' hSw; (try dsimp only at hSw); go_simp; try with_reducible rfl⟩) (by assumption) ?_
      simp only [List.setIfInBounds_toArray, List.set_cons_zero, List.set_cons_succ]
      refine take_at (i := 6) (d := 61) (v := ?_) rfl rfl (by kernel_rfl) (by kernel_rfl) (by kernel_rfl) (fun _ _ _ h => h) (Or.inl ⟨by rfl, by intro w' hSw; (try dsimp only at hSw); go_simp; try with_reducible rfl⟩) (by assumption) ?_
      simp only [List.setIfInBounds_toArray, List.set_cons_zero, List.set_cons_succ]
      refine take_at (i := 7) (d := 62) (v := ?_) rfl rfl (by kernel_rfl) (by kernel_rfl) (by kernel_rfl) (fun _ _ _ h => h) (Or.inl ⟨by rfl, by intro w' hSw; (try dsimp only at hSw); go_simp; try with_reducible rfl⟩) (by assumption) ?_
      simp only [List.setIfInBounds_toArray, List.set_cons_zero, List.set_cons_succ]
      refine take_at (i := 8) (d := 63) (v := ?_) rfl rfl (by kernel_rfl) (by kernel_rfl) (by kernel_rfl) (fun _ _ _ h => h) (Or.inl ⟨by rfl, by intro w' hSw; (try dsimp only at hSw); go_simp; try with_reducible rfl⟩) (by assumption) ?_
      simp only [List.setIfInBounds_toArray, List.set_cons_zero, List.set_cons_succ]
      refine take_at (i := 9) (d := 64) (v := ?_) rfl rfl (by kernel_rfl) (by kernel_rfl) (by kernel_rfl) (fun _ _ _ h => h) (Or.inl ⟨by rfl, by intro w' hSw; (try dsimp only at hSw); go_simp; try with_reducible rfl⟩) (by assumption) ?_
      simp only [List.setIfInBounds_toArray, List.set_cons_zero, List.set_cons_succ]
      refine take_at (i := 10) (d := 65) (v := ?_) rfl rfl (by kernel_rfl) (by kernel_rfl) (by kernel_rfl) (fun _ _ _ h => h) (Or.inl ⟨by rfl, by intro w' hSw; (try dsimp only at hSw); go_simp; try with_reducible rfl⟩) (by assumption) ?_
      simp only [List.setIfInBounds_toArray, List.set_cons_zero, List.set_cons_succ]
      refine wpAnyH_ready (rs := [11]) (by kernel_rfl) (by simp) ?_
      refine AllReadyH.cons rfl (fun K hK => ?_) AllReadyH.nil
      go_simp
      refine (chain_head tb p (ersL (es.take (k + 1))) w6.drew HC6.out).mono ?_
      rintro e w7 ⟨a7, c7, rfl, hr7⟩
      rw [headC_len] at hr7 ⊢
      have HB7 := Lib.hid (below_undrew hr7.2.1)
      have HS7 := Lib.hid (HS6.out.below HB7.out)
      have HC7 := Lib.hid (HC6.out.below HB7.out)
      have HI7 : Hid (IntsAt .u8 w7 a7 (headC (ersL (es.take (k + 1))))) := Lib.hid (by have h := hr7.1; rw [headC_len] at h; exact (owns_at h).2.1)
      clear hr7 x0 x1
      obtain ⟨x0, x1⟩ := HCO.out w7 HS7.out.bel b off rfl
      dsimp only
      go_wp2_with fail
      refine hK.out _ _ ?_ (fun hHeld => ?_)
      · exact ⟨x0, x1⟩
      clear hK K
      try simp only [Act.put, List.getElem_toArray, List.getElem_cons_succ, List.getElem_cons_zero]
      try simp only [List.setIfInBounds_toArray, List.set_cons_zero, List.set_cons_succ]
      refine wpAnyH_ready (rs := [12]) (by kernel_rfl) (by simp) ?_
      refine AllReadyH.cons rfl (fun K hK => ?_) AllReadyH.nil
      go_simp
      have HBE := Lib.hid (bytes_eq a6 a7 (D.take 32) (headC (ersL (es.take (k + 1)))) 32 32 c6 c7 w7 (by rw [HDT.out]; exact HHL.out) HHL.out (ints_below ((owns_at HR6.out).2.1.take 32) HB7.out) HI7.out (by rw [HDT.out]; exact HDI.out) HDI.out)
      rw [HDT.out, eqB_self] at HBE
      refine HBE.out.mono ?_
      rintro e w9 ⟨rfl, rfl⟩
      dsimp only
      go_wp2_with fail
      refine hK.out _ _ ?_ (fun hHeld => ?_)
      · exact ⟨x0, x1⟩
      clear hK K
      try simp only [Act.put, List.getElem_toArray, List.getElem_cons_succ, List.getElem_cons_zero]
      try simp only [List.setIfInBounds_toArray, List.set_cons_zero, List.set_cons_succ]
      refine take_at (i := 13) (d := 68) (v := ?_) rfl rfl (by kernel_rfl) (by kernel_rfl) (by kernel_rfl) (fun _ _ _ h => h) (Or.inl ⟨by rfl, by intro w' hSw; (try dsimp only at hSw); go_simp; try with_reducible rfl⟩) (by assumption) ?_
      simp only [List.setIfInBounds_toArray, List.set_cons_zero, List.set_cons_succ]
      refine take_at (i := 14) (d := 69) (v := ?_) rfl rfl (by kernel_rfl) (by kernel_rfl) (by kernel_rfl) (fun _ _ _ h => h) (Or.inl ⟨by rfl, by intro w' hSw; (try dsimp only at hSw); go_simp; try with_reducible rfl⟩) (by assumption) ?_
      simp only [List.setIfInBounds_toArray, List.set_cons_zero, List.set_cons_succ]
      refine take_at (i := 15) (d := 70) (v := ?_) rfl rfl (by kernel_rfl) (by kernel_rfl) (by kernel_rfl) (fun _ _ _ h => h) (Or.inl ⟨by rfl, by intro w' hSw; (try dsimp only at hSw); go_simp; try with_reducible rfl⟩) (by assumption) ?_
      simp only [List.setIfInBounds_toArray, List.set_cons_zero, List.set_cons_succ]
      refine take_at (i := 16) (d := 71) (v := ?_) rfl rfl (by kernel_rfl) (by kernel_rfl) (by kernel_rfl) (fun _ _ _ h => h) (Or.inl ⟨by rfl, by intro w' hSw; (try dsimp only at hSw); go_simp; try with_reducible rfl⟩) (by assumption) ?_
      simp only [List.setIfInBounds_toArray, List.set_cons_zero, List.set_cons_succ]
      refine take_at (i := 18) (d := 73) (v := ?_) rfl rfl (by kernel_rfl) (by kernel_rfl) (by kernel_rfl) (fun _ _ _ h => h) (Or.inl ⟨by rfl, by intro w' hSw; (try dsimp only at hSw); go_simp; try with_reducible rfl⟩) (by assumption) ?_
      simp only [List.setIfInBounds_toArray, List.set_cons_zero, List.set_cons_succ]
      refine take_at (i := 19) (d := 74) (v := ?_) rfl rfl (by kernel_rfl) (by kernel_rfl) (by kernel_rfl) (fun _ _ _ h => h) (Or.inl ⟨by rfl, by intro w' hSw; (try dsimp only at hSw); go_simp; try with_reducible rfl⟩) (by assumption) ?_
      simp only [List.setIfInBounds_toArray, List.set_cons_zero, List.set_cons_succ]
      refine wpAnyH_ready (rs := [17]) (by kernel_rfl) (by simp) ?_
      refine AllReadyH.cons rfl (fun K hK => ?_) AllReadyH.nil
      go_simp
      have HLE := Lib.hid (chain_len tb p (ersL (es.take (k + 1))) w7 HC7.out)
      rw [HL3.out, show ((k + 1 : Nat) : Int) = (k : Int) + 1 from rfl] at HLE
      refine HLE.out.mono ?_
      rintro e w9 ⟨rfl, rfl⟩
      dsimp only
      go_wp2_with fail
      refine hK.out _ _ ?_ (fun hHeld => ?_)
      · exact ⟨x0, x1⟩
      clear hK K
      try simp only [Act.put, List.getElem_toArray, List.getElem_cons_succ, List.getElem_cons_zero]
      try simp only [List.setIfInBounds_toArray, List.set_cons_zero, List.set_cons_succ]
      refine take_at (i := 20) (d := 75) (v := ?_) rfl rfl (by kernel_rfl) (by kernel_rfl) (by kernel_rfl) (fun _ _ _ h => h) (Or.inl ⟨by rfl, by intro w' hSw; (try dsimp only at hSw); go_simp; try with_reducible rfl⟩) (by assumption) ?_
      simp only [List.setIfInBounds_toArray, List.set_cons_zero, List.set_cons_succ]
      refine take_at (i := 21) (d := 76) (v := ?_) rfl rfl (by kernel_rfl) (by kernel_rfl) (by kernel_rfl) (fun _ _ _ h => h) (Or.inl ⟨by rfl, by intro w' hSw; (try dsimp only at hSw); go_simp; try with_reducible rfl⟩) (by assumption) ?_
      simp only [List.setIfInBounds_toArray, List.set_cons_zero, List.set_cons_succ]
      refine take_at (i := 22) (d := 77) (v := ?_) rfl rfl (by kernel_rfl) (by kernel_rfl) (by kernel_rfl) (fun _ _ _ h => h) (Or.inl ⟨by rfl, by intro w' hSw; (try dsimp only at hSw); go_simp; try with_reducible rfl⟩) (by assumption) ?_
      simp only [List.setIfInBounds_toArray, List.set_cons_zero, List.set_cons_succ]
      refine take_at (i := 23) (d := 78) (v := ?_) rfl rfl (by kernel_rfl) (by kernel_rfl) (by kernel_rfl) (fun _ _ _ h => h) (Or.inl ⟨by rfl, by intro w' hSw; (try dsimp only at hSw); go_simp; try with_reducible rfl⟩) (by assumption) ?_
      simp only [List.setIfInBounds_toArray, List.set_cons_zero, List.set_cons_succ]
      refine take_at (i := 25) (d := 80) (v := ?_) rfl rfl (by kernel_rfl) (by kernel_rfl) (by kernel_rfl) (fun _ _ _ h => h) (Or.inl ⟨by rfl, by intro w' hSw; (try dsimp only at hSw); go_simp; try with_reducible rfl⟩) (by assumption) ?_
      simp only [List.setIfInBounds_toArray, List.set_cons_zero, List.set_cons_succ]
      refine take_at (i := 26) (d := 81) (v := ?_) rfl rfl (by kernel_rfl) (by kernel_rfl) (by kernel_rfl) (fun _ _ _ h => h) (Or.inl ⟨by rfl, by intro w' hSw; (try dsimp only at hSw); go_simp; try with_reducible rfl⟩) (by assumption) ?_
      simp only [List.setIfInBounds_toArray, List.set_cons_zero, List.set_cons_succ]
      refine take_at (i := 27) (d := 82) (v := ?_) rfl rfl (by kernel_rfl) (by kernel_rfl) (by kernel_rfl) (fun _ _ _ h => h) (Or.inl ⟨by rfl, by intro w' hSw; (try dsimp only at hSw); go_simp; try with_reducible rfl⟩) (by assumption) ?_
      simp only [List.setIfInBounds_toArray, List.set_cons_zero, List.set_cons_succ]
      refine take_at (i := 28) (d := 83) (v := ?_) rfl rfl (by kernel_rfl) (by kernel_rfl) (by kernel_rfl) (fun _ _ _ h => h) (Or.inl ⟨by rfl, by intro w' hSw; (try dsimp only at hSw); go_simp; try with_reducible rfl⟩) (by assumption) ?_
      simp only [List.setIfInBounds_toArray, List.set_cons_zero, List.set_cons_succ]
      refine take_at (i := 29) (d := 84) (v := ?_) rfl rfl (by kernel_rfl) (by kernel_rfl) (by kernel_rfl) (fun _ _ _ h => h) (Or.inl ⟨by rfl, by intro w' hSw; (try dsimp only at hSw); go_simp; try with_reducible rfl⟩) (by assumption) ?_
      simp only [List.setIfInBounds_toArray, List.set_cons_zero, List.set_cons_succ]
      refine wpAnyH_ready (rs := [24]) (by kernel_rfl) (by simp) ?_
      refine AllReadyH.cons rfl (fun K hK => ?_) AllReadyH.nil
      go_simp
      refine (chain_head tb p (ersL (es.take (k + 1))) _ HC7.out).mono ?_
      rintro e w8 ⟨a8, c8, rfl, hr8⟩
      rw [headC_len] at hr8 ⊢
      have HB8 := Lib.hid (below_step HB7.out hr8.2.1)
      have HS8 := Lib.hid (HS7.out.below hr8.2.1)
      have HC8 := Lib.hid (HC7.out.below hr8.2.1)
      have HI8 : Hid (IntsAt .u8 w8 a8 (headC (ersL (es.take (k + 1))))) := Lib.hid (by have h := hr8.1; rw [headC_len] at h; exact (owns_at h).2.1)
      clear hr8 x0 x1
      obtain ⟨x0, x1⟩ := HCO.out w8 HS8.out.bel b off rfl
      dsimp only
      go_wp2_with fail
      refine hK.out _ _ ?_ (fun hHeld => ?_)
      · exact ⟨x0, x1⟩
      clear hK K
      try simp only [Act.put, List.getElem_toArray, List.getElem_cons_succ, List.getElem_cons_zero]
      try simp only [List.setIfInBounds_toArray, List.set_cons_zero, List.set_cons_succ]
      refine wpAnyH_ready (rs := [30]) (by kernel_rfl) (by simp) ?_
      refine AllReadyH.cons rfl (fun K hK => ?_) AllReadyH.nil
      go_simp
      refine (rnext_any { k := ek.k, b := ek.b } ek.ao m ek.c a4 (headC (ersL (es.take k))) c4 w8 HOK.out HMM.out (ints_below HXW.out.1 HS8.out.bel) HXW.out.2.1 (ints_below (owns_at HO6.out).2.1 HB8.out) (headC_len _) (headC_inB _)).mono ?_
      rintro e w9 ⟨a9, c9, rfl, hr9⟩
      rw [nextC_len] at hr9 ⊢
      have HS9 := Lib.hid (HS8.out.below hr9.2.1)
      have HC9 := Lib.hid (HC8.out.below hr9.2.1)
      have HI9 : Hid (IntsAt .u8 w9 a8 (headC (ersL (es.take (k + 1))))) := Lib.hid (ints_below HI8.out hr9.2.1)
      have HJ9 : Hid (IntsAt .u8 w9 a9 (headC (ersL (es.take (k + 1))))) := Lib.hid (by have h := hr9.1; rw [nextC_len] at h; rw [HNX.out]; exact (owns_at h).2.1)
      clear hr9 x0 x1
      obtain ⟨x0, x1⟩ := HCO.out w9 HS9.out.bel b off rfl
      dsimp only
      go_wp2_with fail
      refine hK.out _ _ ?_ (fun hHeld => ?_)
      · exact ⟨x0, x1⟩
      clear hK K
      try simp only [Act.put, List.getElem_toArray, List.getElem_cons_succ, List.getElem_cons_zero]
      try simp only [List.setIfInBounds_toArray, List.set_cons_zero, List.set_cons_succ]
      refine wpAnyH_ready (rs := [31]) (by kernel_rfl) (by simp) ?_
      refine AllReadyH.cons rfl (fun K hK => ?_) AllReadyH.nil
      go_simp
      have HBE := Lib.hid (bytes_eq a8 a9 (headC (ersL (es.take (k + 1)))) (headC (ersL (es.take (k + 1)))) 32 32 c8 c9 w9 HHL.out HHL.out HI9.out HJ9.out HDI.out HDI.out)
      rw [eqB_self] at HBE
      refine HBE.out.mono ?_
      rintro e wz ⟨rfl, rfl⟩
      dsimp only
      go_wp2_with fail
      refine hK.out _ _ ?_ (fun hHeld => ?_)
      · exact ⟨x0, x1⟩
      clear hK K
      try simp only [Act.put, List.getElem_toArray, List.getElem_cons_succ, List.getElem_cons_zero]
      try simp only [List.setIfInBounds_toArray, List.set_cons_zero, List.set_cons_succ]
      refine take_at (i := 32) (d := 87) (v := ?_) rfl rfl (by kernel_rfl) (by kernel_rfl) (by kernel_rfl) (fun _ _ _ h => h) (Or.inl ⟨by rfl, by intro w' hSw; (try dsimp only at hSw); go_simp; try with_reducible rfl⟩) (by assumption) ?_
      simp only [List.setIfInBounds_toArray, List.set_cons_zero, List.set_cons_succ]
      refine take_at (i := 33) (d := 88) (v := ?_) rfl rfl (by kernel_rfl) (by kernel_rfl) (by kernel_rfl) (fun _ _ _ h => h) (Or.inl ⟨by rfl, by intro w' hSw; (try dsimp only at hSw); go_simp; try with_reducible rfl⟩) (by assumption) ?_
      simp only [List.setIfInBounds_toArray, List.set_cons_zero, List.set_cons_succ]
      refine wpAnyH_done (by kernel_rfl) ?_ _
      have HML : Hid (n - (intOf (.int .i64 ((k + 1 : Nat) : Int))).toNat < n - (intOf (.int .i64 (k : Int))).toNat) := Lib.hid (by simp only [intOf]; have := HKN.out; omega)
      have HW1 : Hid (wrap64 ((k : Int) + 1) = ((k + 1 : Nat) : Int)) := Lib.hid (by have := HN50.out; have := HKN.out; unfold wrap64; omega)
      clear hHeld x0 x1 hs32 hdn hse hw1 hw2 hne1
      go_wp2
      try rw [HW1.out]
      exact ⟨⟨k + 1, HKN.out, rfl, HS9.out, HC9.out, HAK.out HOK.out⟩, HML.out⟩
    · obtain rfl : k = n := by omega
      have i1 : ¬ (k : Int) < (k : Int) := by omega
      go_wp2_with fail
      refine (first22_any wr).mono ?_
      rintro e w7 ⟨rfl, hb7⟩
      have HS7 := Lib.hid (HS.out.below hb7)
      clear hb7
      go_wp2
      go_ret
      exact ⟨rfl, HS7.out.bel⟩

end Go.Proofs.Ytbhoakohpfdeoaa
