/- ChainPlays is true for every input, and its arguments read behind the call as before; no condition: the walk. -/
import Derived.Test.YtbhoakohpfdeoaaChE
import Derived.Test.YtbhoakohpfdeoaaChD
import Derived.Test.YtbhoakohpfdeoaaChF
namespace Go.Proofs.Ytbhoakohpfdeoaa
open Go.RowKit
set_option linter.unusedVariables false
set_option linter.unusedSimpArgs false

theorem entAt_off {w : World} {ao : Option Addr} {es : List EV} (h : EntAt w ao es) (b off : Nat) (ha : ao = some ⟨b, off, none⟩) (i : Nat) (hi : i < es.length) : w.cell? ⟨b, off + i * 2, none⟩ = some (.int .i64 es[i].k) ∧ w.cell? ⟨b, off + i * 2 + 1, none⟩ = some (.slice es[i].ao es[i].b.length es[i].c) := by
  subst ha; exact h.off i hi
theorem few22_facts {es : List EV} (h : fewB (es.map (fun e => e.b.length)) 100 100000 = true) : es.length ≤ 100 ∧ (bodyC (ersL es)).length ≤ 100500 := by
  obtain ⟨h1, h2⟩ := few_facts _ _ _ h
  rw [List.length_map] at h1
  refine ⟨h1, ?_⟩
  rw [bodyC_len, ersL_len]
  have : sumC (ersL es) = (es.map (fun e => e.b.length)).sum := by unfold sumC ersL; rw [List.map_map]; rfl
  omega
theorem St.two {W w w' : World} {tb p : Nat} (h : St W tb w) (hp : W.heap.size ≤ p) (hk : Keeps (fun i => i = tb ∨ i = p) w w') (ht : TabOk w' tb) : St W tb w' :=
  ⟨ht, below_fp h.bel hk (fun i hi => by have := h.own; omega), h.own⟩
theorem two_tyE {w : World} {tb p : Nat} {l : List ER} (ht : TabOk w tb) (hc : CI tb w p l) : ∀ i, (i = tb ∨ i = p) → ∃ T', TyAt w i T' ∧ 34 ≠ T' := fun i hi => by
  rcases hi with e | e
  · exact ⟨_, e ▸ ht.ty, by decide⟩
  · exact ⟨_, e ▸ hc.ty, by decide⟩
/-- The entries that are fine. -/
def goodE (e : EV) : Bool := badF e.er == 0
theorem good_take (es : List EV) (k : Nat) (h : k < es.length) : (es.take (k + 1)).filter goodE = (es.take k).filter goodE ++ (if badF es[k].er = 0 then [es[k]] else []) := by
  rw [List.take_add_one, List.getElem?_eq_getElem h, List.filter_append]
  congr 1
  show List.filter goodE [es[k]] = _
  unfold goodE
  by_cases hb : badF es[k].er = 0
  · rw [if_pos hb]; simp [hb]
  · rw [if_neg hb]; simp [hb]
/-- Entries of another's, their row of one's own. -/
structure DI2 (w : World) (ds : List EV) (v : Value) : Prop where
  row : w.ownsRow 0 34 2 v ds.length (ds.flatMap EV.cells)
theorem own_entAt {w : World} {ds : List EV} {ao : Option Addr} {n c : Nat} (hr : w.ownsRow 0 34 2 (.slice ao n c) n (ds.flatMap EV.cells)) (he : ∀ e ∈ ds, e.okAt w) (hn : ds.length = n) : EntAt w ao ds := by
  refine ⟨?_, he⟩
  by_cases h0 : n = 0
  · exact Or.inl (List.eq_nil_of_length_eq_zero (by omega))
  · obtain ⟨b, rfl, hc⟩ := own_cell hr (by omega)
    refine Or.inr ⟨b, 0, rfl, fun i hi => ⟨?_, ?_⟩⟩
    · rw [Nat.zero_add]
      exact hc (i * 2 + 0) _ (by rw [flat_get EV.cells 2 (fun _ => rfl) ds i hi 0 (by omega)]; rfl)
    · rw [Nat.zero_add]
      exact hc (i * 2 + 1) _ (by rw [flat_get EV.cells 2 (fun _ => rfl) ds i hi 1 (by omega)]; rfl)
theorem good_ersL (es : List EV) (k : Nat) (h : k < es.length) : ersL ((es.take (k + 1)).filter goodE) = (if badF es[k].er = 0 then ersL ((es.take k).filter goodE) ++ [es[k].er] else ersL ((es.take k).filter goodE)) := by
  rw [good_take es k h]
  unfold ersL
  rw [List.map_append]
  split <;> simp
theorem parse_len : ∀ (n : Nat) (zs : List Int) (l : List ER) (r : List Int), parseC n zs = some (l, r) → l.length = n
  | 0, zs, l, r, h => by
    rw [parseC] at h
    cases h; rfl
  | n + 1, zs, l, r, h => by
    rw [parseC] at h
    split at h
    · cases h
    · split at h
      · cases h
      · split at h
        · cases h
        · rename_i l' r' he
          cases h
          rw [List.length_cons, parse_len n _ _ _ (by assumption)]
theorem import_len {zs : List Int} (hB : InB zs) : (importF zs).1.length ≤ 65535 := by
  unfold importF
  split
  · simp
  · rename_i h34
    have hin := hdF_in hB 32 2 (by omega)
    rw [show (256 : Int) ^ 2 = 65536 by decide] at hin
    split
    · simp
    · rename_i l r he
      have := parse_len _ _ _ _ he
      split
      · split
        · dsimp only; omega
        · simp
      · simp
theorem sameC_self (l : List ER) : sameC l l = true := by
  rw [sameC_eq, decide_eq_true rfl, Bool.true_and]
  rw [List.all_eq_true]
  intro x hx
  have : x.1 = x.2 := by
    obtain ⟨i, hi, rfl⟩ := List.getElem_of_mem hx
    simp
  unfold eqE
  rw [this]
  simp [eqB]

set_option maxRecDepth 100000 in
set_option maxHeartbeats 4000000 in
theorem cplays_core (W : World) (ao : Option Addr) (es : List EV) (n c : Nat) (hn : es.length = n) (h : EntAt W ao es) (hcap : n ≤ c) (hcm : c ≤ maxLen)
    (fo : Option Addr) (fs : List EV) (n2 c2 : Nat) (hn2 : fs.length = n2) (h2 : EntAt W fo fs) (hcap2 : n2 ≤ c2) (hcm2 : c2 ≤ maxLen)
    (bo : Option Addr) (zs : List Int) (m d : Nat) (hm : zs.length = m) (hz : IntsAt .u8 W bo zs) (hB : InB zs) (hcd : m ≤ d) (hdm : d ≤ maxLen) :
    Calls Try.prog 8 #[.slice ao n c, .slice fo n2 c2, .slice bo m d] W fun e w' => e = .returned (.bool true) ∧ Below W.heap.size W w' := by
  have HN := Lib.hid hn
  have HE := Lib.hid h
  have HC := Lib.hid (And.intro hcap hcm)
  have HN2 := Lib.hid hn2
  have HE2 := Lib.hid h2
  have HC2 := Lib.hid (And.intro hcap2 hcm2)
  have HM := Lib.hid hm
  have HZ := Lib.hid hz
  have HB := Lib.hid hB
  have HD := Lib.hid (And.intro hcd hdm)
  clear hn h hcap hcm hn2 h2 hcap2 hcm2 hm hz hB hcd hdm
  go_enter Try.func8, Try.ntmps8
  go_wp2_with fail
  refine (first22_any W).mono ?_
  rintro e w1 ⟨rfl, hb1⟩
  have HB1 := Lib.hid hb1
  clear hb1
  have HF := Lib.hid (few22_any ao es n c w1 HN.out (HE.out.below HB1.out) HC.out.1 HC.out.2)
  have HFF := Lib.hid (@few22_facts es)
  have HG := Lib.hid (few22_any fo fs n2 c2 w1 HN2.out (HE2.out.below HB1.out) HC2.out.1 HC2.out.2)
  have HGF := Lib.hid (@few22_facts fs)
  generalize fewB (es.map (fun e => e.b.length)) 100 100000 = F at *
  generalize fewB (fs.map (fun e => e.b.length)) 100 100000 = G at *
  go_wp2_with fail
  refine HF.out.mono ?_
  rintro e w9 ⟨rfl, rfl⟩
  cases F with
  | false =>
    go_wp2_with fail
    refine (first22_any w1).mono ?_
    rintro e w2 ⟨rfl, hb2⟩
    have HB2 := Lib.hid (below_step HB1.out hb2)
    clear hb2
    go_wp2
    go_ret
    exact ⟨rfl, HB2.out⟩
  | true =>
  have HFS := Lib.hid (HFF.out rfl)
  clear HF HFF
  go_wp2_with fail
  refine HG.out.mono ?_
  rintro e w9 ⟨rfl, rfl⟩
  cases G with
  | false =>
    go_wp2_with fail
    refine (first22_any w1).mono ?_
    rintro e w2 ⟨rfl, hb2⟩
    have HB2 := Lib.hid (below_step HB1.out hb2)
    clear hb2
    go_wp2
    go_ret
    exact ⟨rfl, HB2.out⟩
  | true =>
  have HGS := Lib.hid (HGF.out rfl)
  clear HG HGF
  by_cases hbig : (100000 : Int) < (m : Int)
  · go_wp2_with fail
    refine (first22_any w1).mono ?_
    rintro e w2 ⟨rfl, hb2⟩
    have HB2 := Lib.hid (below_step HB1.out hb2)
    clear hb2
    go_wp2
    go_ret
    exact ⟨rfl, HB2.out⟩
  have HML : Hid (m ≤ 100000) := Lib.hid (by omega)
  go_wp2_with fail
  refine (newTable_any w1).mono ?_
  rintro e w2 ⟨rfl, ht2, hb2⟩
  have HS2 : Hid (St W w1.heap.size w2) := Lib.hid ⟨ht2, below_step HB1.out hb2, HB1.out.size⟩
  clear ht2 hb2 HB1 hbig
  generalize w1.heap.size = tb at *
  have HCN := Lib.hid (chain_new tb w2 HS2.out.tab)
  go_wp2_with fail
  refine HCN.out.mono ?_
  rintro e w3 ⟨p, rfl, ht3, hc3, hb3, hp3⟩
  have HS3 := Lib.hid (HS2.out.below hb3)
  have HC3 := Lib.hid hc3
  have HPW : Hid (W.heap.size ≤ p) := Lib.hid (Nat.le_trans HS2.out.bel.size hp3)
  clear ht3 hc3 hb3 hp3 HCN HS2
  go_wp2_with fail
  go_loopw [9, 10] (fun s i wr => ∃ (k dn : Nat) (a2 : Option Addr) (d2 : Nat), k ≤ n ∧ i = .int .i64 (k : Int) ∧ s = .slice a2 dn d2 ∧ ((es.take k).filter goodE).length = dn ∧ St W tb wr ∧ CI tb wr p (ersL ((es.take k).filter goodE)) ∧ wr.ownsRow 0 34 2 (.slice a2 dn d2) dn (((es.take k).filter goodE).flatMap EV.cells) ∧ ∀ g, (Value.slice a2 dn d2).ownBlock = some g → W.heap.size ≤ g) (fun _ i _ => n - (intOf i).toNat)
  case atStart => exact ⟨0, 0, none, 0, by omega, rfl, rfl, rfl, HS3.out, HC3.out, World.ownsRow_nil _ _ _ _, fun g (hg : (Value.slice none 0 0).ownBlock = some g) => by cases hg⟩
  case round =>
    obtain ⟨k, dn, a2, d2, hk, rfl, rfl, hdn, hs, hc, hr, hf⟩ := hrel
    have HS := Lib.hid hs
    have HCI := Lib.hid hc
    have HR := Lib.hid hr
    have HFR := Lib.hid hf
    have HDN := Lib.hid hdn
    clear hs hc hr hf hdn
    by_cases hlt : k < n
    · have i1 : (k : Int) < (n : Int) := by omega
      have hkb : k < es.length := by rw [HN.out]; exact hlt
      have HKN : Hid (k < n ∧ n ≤ 100) := Lib.hid ⟨hlt, by have := HFS.out.1; rw [HN.out] at this; exact this⟩
      have HCO := Lib.hid (fun (wx : World) (hb : Below W.heap.size W wx) (b off : Nat) (ha : ao = some ⟨b, off, none⟩) => entAt_off (HE.out.below hb) b off ha k hkb)
      have HXW := Lib.hid (HE.out.2 es[k] (List.getElem_mem hkb))
      have HGT := Lib.hid (good_take es k hkb)
      have HGE := Lib.hid (good_ersL es k hkb)
      have HLT1 : Hid (((es.take (k + 1)).filter goodE).length ≤ 100) := Lib.hid (by
        have h1 := List.length_filter_le goodE (es.take (k + 1))
        rw [List.length_take] at h1
        have := HKN.out; omega)
      have HGA : Hid (∀ e ∈ (es.take (k + 1)).filter goodE, e.okAt W ∧ e.er.ok) := Lib.hid (fun e he => by
        obtain ⟨h1, h2⟩ := List.mem_filter.1 he
        exact ⟨HE.out.2 e (List.mem_of_mem_take h1), (badF_ok _).1 (by unfold goodE at h2; simpa using h2)⟩)
      have HEK := Lib.hid (List.getElem_mem (l := es) hkb)
      obtain ⟨m1, hm1⟩ : ∃ m1, m1 = es[k].b.length := ⟨_, rfl⟩
      rw [← hm1] at HCO
      have HMM : Hid (es[k].er.b.length = m1) := Lib.hid hm1.symm
      have HDL : Hid (dn ≤ k) := Lib.hid (by
        rw [← HDN.out]
        have h1 := List.length_filter_le goodE (es.take k)
        rw [List.length_take] at h1
        omega)
      obtain ⟨b, off, hao⟩ : ∃ b off, ao = some ⟨b, off, none⟩ := HE.out.some (fun e => by rw [e] at hkb; simp at hkb)
      subst hao
      clear hm1 hlt hk
      generalize es[k] = ek at *
      obtain ⟨x0, x1⟩ := HCO.out wr HS.out.bel b off rfl
      have HBD := Lib.hid (bad_any ek.er ek.ao m1 ek.c wr HMM.out)
      unfold EV.er at HBD
      dsimp only at HBD
      go_wp2_with fail
      with_reducible refine HBD.out.mono ?_
      rintro e w4 ⟨rfl, hb4⟩
      have HS4 := Lib.hid (HS.out.below hb4)
      have HC4 := Lib.hid (HCI.out.below hb4)
      have HR4 := Lib.hid (ownsRow_same HR.out (fun g hg => hb4.block g (HR.out.lt g hg).2))
      clear hb4 HBD HS HCI HR x0 x1
      have HBE : Hid (badF ek.er = badF { k := ek.k, b := ek.b }) := Lib.hid rfl
      generalize badF { k := ek.k, b := ek.b } = B at *
      go_upto_if 53 with fail
      go_cut [9] (fun s wx => ∃ (a3 : Option Addr) (dn3 d3 : Nat), s = .slice a3 dn3 d3 ∧ ((es.take (k + 1)).filter goodE).length = dn3 ∧ St W tb wx ∧ CI tb wx p (ersL ((es.take k).filter goodE)) ∧ wx.ownsRow 0 34 2 (.slice a3 dn3 d3) dn3 (((es.take (k + 1)).filter goodE).flatMap EV.cells) ∧ (∀ g, (Value.slice a3 dn3 d3).ownBlock = some g → W.heap.size ≤ g))
      case first =>
        by_cases hB0 : B = 0
        · have hb : (B == 0) = true := by simp [hB0]
          have HFE : Hid ((es.take (k + 1)).filter goodE = (es.take k).filter goodE ++ [ek]) := Lib.hid (by rw [HGT.out, if_pos (HBE.out.trans hB0)])
          clear hB0
          obtain ⟨x0, x1⟩ := HCO.out w4 HS4.out.bel b off rfl
          obtain ⟨i0, hi0, hz0, hz1, hz2⟩ := info_parts Try_infoE
          have HPA : Hid ((w4.alloc (.cells #[.int .i64 ek.k, .slice ek.ao m1 ek.c] 34)).ownsRow 0 34 2 (.slice a2 dn d2) dn (((es.take k).filter goodE).flatMap EV.cells)) := Lib.hid (ownsRow_same HR4.out (fun g hg => Below.heap_alloc _ _ _ (by simpa using (HR4.out.lt g hg).2)))
          have HNW : Hid (∀ ad, some (⟨w4.heap.size, 0, none⟩ : Addr) = some ad → ∀ j u, ([.int .i64 ek.k, .slice ek.ao m1 ek.c] : List Value)[j]? = some u → (w4.alloc (.cells #[.int .i64 ek.k, .slice ek.ao m1 ek.c] 34)).cell? (ad.add j) = some u) := Lib.hid (fun ad had => by cases had; exact World.news_of_block (heap_alloc_new _ _))
          have hk8 : Below w4.heap.size w4 (w4.alloc (.cells #[.int .i64 ek.k, .slice ek.ao m1 ek.c] 34)) := (Below.refl _ _).alloc (Nat.le_refl _) _
          have HK8 := Lib.hid hk8
          clear hk8
          go_wp2_with (at_builtin; refine wpList_append_any rfl _ _ 22 rfl 34 i0 _ 2 32 Try.underlying22 hi0 hz0 hz1 hz2 rfl (by decide) (.slice a2 dn d2) dn _ rfl HPA.out (some ⟨w4.heap.size, 0, none⟩) 1 1 [.int .i64 ek.k, .slice ek.ao m1 ek.c] rfl ?c1 ?c2 ?c3 ?c4 ?c5 ?c6 ?_)
          case c1 => rfl
          case c2 => intro e; cases e
          case c3 => exact HNW.out
          case c4 => intro u hu; simp at hu; rcases hu with e | e <;> rw [e] <;> rfl
          case c5 => have := HDL.out; have := HKN.out; unfold maxLen; omega
          case c6 => have := HDL.out; have := HKN.out; omega
          intro ao9 cap9 w9 hown hgrow hat hnn
          have hk9 : Keeps (fun i => (Value.slice a2 dn d2).ownBlock = some i) (w4.alloc (.cells #[.int .i64 ek.k, .slice ek.ao m1 ek.c] 34)) w9 := (Keeps.refl _ _).grown hgrow (fun i hi => Or.inl hi)
          have HS9 : Hid (St W tb w9) := Lib.hid (by
            have h8 := HS4.out.below HK8.out
            refine ⟨tab_keep h8.tab hk9 (fun hi => ?_), below_fp h8.bel hk9 (fun i hi => HFR.out i hi), h8.own⟩
            obtain ⟨cur, h⟩ := row_ty HPA.out hi
            obtain ⟨cs, f, h3⟩ := h8.tab.ty
            exact absurd (cells_type (h.symm.trans h3)) (by decide))
          have HC9 : Hid (CI tb w9 p (ersL ((es.take k).filter goodE))) := Lib.hid ((HC4.out.below HK8.out).keepT hk9 (fun i hi => by
            obtain ⟨cur, h⟩ := row_ty HPA.out hi
            exact ⟨_, ⟨_, _, h⟩, by decide, by decide⟩))
          have HR9 : Hid (w9.ownsRow 0 34 2 (.slice ao9 (dn + 1) cap9) (dn + 1) (((es.take (k + 1)).filter goodE).flatMap EV.cells)) := Lib.hid (by
            rw [HFE.out, List.flatMap_append]
            simp only [List.flatMap_cons, List.flatMap_nil, List.append_nil, EV.cells]
            rw [show ek.b.length = m1 from HMM.out]
            exact hown)
          have HF9 : Hid (∀ g, (Value.slice ao9 (dn + 1) cap9).ownBlock = some g → W.heap.size ≤ g) := Lib.hid (fun g hg => by
            rcases hat g hg with h | h
            · exact HFR.out g h
            · have := HS4.out.bel.size; have := HK8.out.size; omega)
          clear hown hgrow hat hnn hk9 x0 x1
          go_wp2_with fail
          go_meet
          case rel => exact ⟨ao9, dn + 1, cap9, rfl, by rw [HFE.out, List.length_append, HDN.out]; rfl, HS9.out, HC9.out, HR9.out, HF9.out⟩
        · have hb : (B == 0) = false := by simp [hB0]
          have HFE : Hid ((es.take (k + 1)).filter goodE = (es.take k).filter goodE) := Lib.hid (by rw [HGT.out, if_neg (fun h => hB0 (HBE.out.symm.trans h)), List.append_nil])
          clear hB0
          go_wp2_with fail
          go_meet
          case rel => exact ⟨a2, dn, d2, rfl, by rw [HFE.out, HDN.out], HS4.out, HC4.out, by rw [HFE.out]; exact HR4.out, HFR.out⟩
      case rest =>
        obtain ⟨a3, dn3, d3, rfl, hd3, hs3, hc3, hr3, hf3⟩ := hcut
        clear HS4 HC4 HR4
        have HS4 := Lib.hid hs3
        have HC4 := Lib.hid hc3
        have HR4 := Lib.hid hr3
        have HF4 := Lib.hid hf3
        have HD4 := Lib.hid hd3
        clear hd3 hs3 hc3 hr3 hf3
        rename World => wc
        have hbb : (B != B) = false := by simp
        have HAD := Lib.hid (chain_add tb p (ersL ((es.take k).filter goodE)) ek.er ek.ao m1 ek.c wc HS4.out.tab HC4.out HMM.out (ints_below HXW.out.1 HS4.out.bel) HXW.out.2.1 (by rw [ersL_len, HDN.out]; have := HDL.out; have := HKN.out; omega))
        rw [HBE.out] at HGE HAD
        unfold EV.er at HAD HGE
        dsimp only at HAD
        have hbd : (dn3 != dn3) = false := by simp
        have hbe : ((dn3 : Int) != (dn3 : Int)) = false := by simp
        obtain ⟨x0, x1⟩ := HCO.out wc HS4.out.bel b off rfl
        go_wp2_with fail
        with_reducible refine HAD.out.mono ?_
        rintro e w5 ⟨rfl, ht5, ⟨qa, qc, hc5, _⟩, hk5⟩
        have HS5 := Lib.hid (HS4.out.two HPW.out hk5 ht5)
        have HR5 := Lib.hid (hk5.row HR4.out (two_tyE HS4.out.tab HC4.out))
        have HC5 : Hid (CI tb w5 p (ersL ((es.take (k + 1)).filter goodE))) := Lib.hid (by rw [HGE.out]; exact ⟨qa, qc, hc5⟩)
        clear ht5 hc5 hk5 HAD HR4 HC4 HS4 x0 x1
        have HLE := Lib.hid (chain_len tb p (ersL ((es.take (k + 1)).filter goodE)) w5 HC5.out)
        rw [ersL_len, HD4.out] at HLE
        go_wp2_with fail
        refine HLE.out.mono ?_
        rintro e w9 ⟨rfl, rfl⟩
        have HHD := Lib.hid (chain_head tb p (ersL ((es.take (k + 1)).filter goodE)) w5 HC5.out)
        have HHL := Lib.hid (headC_len (ersL ((es.take (k + 1)).filter goodE)))
        go_wp2_with fail
        refine HHD.out.mono ?_
        rintro e w6 ⟨a6, c6, rfl, hr6⟩
        rw [HHL.out] at hr6 ⊢
        have HS6 := Lib.hid (HS5.out.below hr6.2.1)
        have HC6 := Lib.hid (HC5.out.below hr6.2.1)
        have HR6 := Lib.hid (ownsRow_same HR5.out (fun g hg => hr6.2.1.block g (HR5.out.lt g hg).2))
        have HI6 : Hid (IntsAt .u8 w6 a6 (headC (ersL ((es.take (k + 1)).filter goodE)))) := Lib.hid (by have h := hr6.1; rw [HHL.out] at h; exact (owns_at h).2.1)
        clear hr6 HHD HLE HS5 HC5 HR5
        obtain ⟨_, _, hv, hd3a, hd3b⟩ := own_shape HR6.out
        simp only [Value.slice.injEq] at hv
        obtain ⟨rfl, _, rfl⟩ := hv
        have HD3 := Lib.hid (And.intro hd3a hd3b)
        clear hd3a hd3b
        have HRH := Lib.hid (rheadC_any a3 ((es.take (k + 1)).filter goodE) dn3 d3 w6 HD4.out (own_entAt HR6.out (fun e he => (HE.out.below HS6.out.bel).2 e (List.mem_of_mem_take (List.mem_filter.1 he).1)) HD4.out) (fun e he => (HGA.out e he).2) HD3.out.1 HD3.out.2 (by have := HLT1.out; have := HD4.out; omega))
        go_wp2_with fail
        refine HRH.out.mono ?_
        rintro e w7 ⟨a7, c7, rfl, hr7⟩
        rw [HHL.out] at hr7 ⊢
        have HS7 := Lib.hid (HS6.out.below hr7.2.1)
        have HC7 := Lib.hid (HC6.out.below hr7.2.1)
        have HR7 := Lib.hid (ownsRow_same HR6.out (fun g hg => hr7.2.1.block g (HR6.out.lt g hg).2))
        have HJ7 : Hid (IntsAt .u8 w7 a7 (headC (ersL ((es.take (k + 1)).filter goodE)))) := Lib.hid (by have h := hr7.1; rw [HHL.out] at h; exact (owns_at h).2.1)
        have HBY := Lib.hid (bytes_eq a6 a7 (headC (ersL ((es.take (k + 1)).filter goodE))) (headC (ersL ((es.take (k + 1)).filter goodE))) 32 32 c6 c7 w7 HHL.out HHL.out (ints_below HI6.out hr7.2.1) HJ7.out (headC_inB _) (headC_inB _))
        rw [eqB_self] at HBY
        clear hr7 HRH HS6 HC6 HR6 HI6
        go_wp2_with fail
        refine HBY.out.mono ?_
        rintro e w9 ⟨rfl, rfl⟩
        have HML2 : Hid (n - (intOf (.int .i64 ((k + 1 : Nat) : Int))).toNat < n - (intOf (.int .i64 (k : Int))).toNat) := Lib.hid (by simp only [intOf]; have := HKN.out; omega)
        have HW1 : Hid (wrap64 ((k : Int) + 1) = ((k + 1 : Nat) : Int)) := Lib.hid (by have := HKN.out; unfold wrap64; omega)
        clear hbb hbd hbe
        go_wp2
        try rw [HW1.out]
        exact ⟨⟨k + 1, dn3, a3, d3, HKN.out.1, rfl, rfl, HD4.out, HS7.out, HC7.out, HR7.out, HF4.out⟩, HML2.out⟩
    · obtain rfl : k = n := by omega
      have i1 : ¬ (k : Int) < (k : Int) := by omega
      clear hlt hk
      rename World => wr
      have HCB : Hid (k ≤ 100 ∧ n2 ≤ 100) := Lib.hid ⟨by have := HFS.out.1; rw [HN.out] at this; exact this, by have := HGS.out.1; rw [HN2.out] at this; exact this⟩
      have HXP := Lib.hid (export_any tb ao es k c wr HS.out.tab HN.out ((HE.out.ents (S := fun i => i = tb) (fun i hi => by have := HS.out.own; omega)).below HS.out.bel) HC.out.1 HC.out.2 (by have := HCB.out; omega) (by have := HFS.out.2; omega))
      have HXI : Hid (InB (exportF (ersL es)).1) := Lib.hid (by
        unfold exportF
        split
        · split
          · exact fun z hz => by cases hz
          · exact inB_app (inB_app (headC_inB _) (putB_in _ _)) (bodyC_inB (fun e he => by
              obtain ⟨x, hx, rfl⟩ := List.mem_map.1 he
              exact (HE.out.2 x hx).2.1))
        · exact fun z hz => by cases hz)
      have HRX := Lib.hid (fun (wx : World) (hs : St W tb wx) => rexportC_any ao es k c wx HN.out (HE.out.below hs.bel) HC.out.1 HC.out.2 (by have := HCB.out; omega) (by have := HFS.out.2; omega))
      have HIM := Lib.hid (fun (wx : World) (hs : St W tb wx) => import_any tb bo zs m d wx hs.tab HM.out (ints_below HZ.out hs.bel) HB.out (HZ.out.far hs.own) HD.out.1 HD.out.2 (by have := HML.out; omega))
      have HRI := Lib.hid (fun (wx : World) (hs : St W tb wx) => rimport_any bo zs m d wx HM.out (ints_below HZ.out hs.bel) HB.out HD.out.1 HD.out.2 (by have := HML.out; omega))
      unfold XPost at HXP
      unfold RowPost2 at HRX
      unfold ImpPost at HIM
      unfold RImpPost at HRI
      have HIL : Hid ((importF zs).1.length ≤ 65535) := Lib.hid (import_len HB.out)
      generalize exportF (ersL es) = R at *
      obtain ⟨X, er⟩ := R
      generalize importF zs = Q at *
      obtain ⟨L, ei⟩ := Q
      dsimp only at HXP HRX HIM HRI HXI HIL
      obtain ⟨xn, hxn⟩ : ∃ xn, xn = X.length := ⟨_, rfl⟩
      have HXN : Hid (X.length = xn) := Lib.hid hxn.symm
      rw [← hxn] at HXP HRX
      obtain ⟨ln, hln⟩ : ∃ ln, ln = L.length := ⟨_, rfl⟩
      have HLN : Hid (L.length = ln) := Lib.hid hln.symm
      rw [← hln] at HIM HRI HIL
      clear hxn hln
      go_wp2_with fail
      with_reducible refine HXP.out.mono ?_
      rintro e w4 ⟨a4, c4, rfl, ht4, ho4, hk4, hf4⟩
      have HS4 := Lib.hid (HS.out.step hk4 ht4)
      have HO4 : Hid (w4.ownsRow 0 5 1 (.slice a4 xn c4) xn (X.map (Value.int .u8))) := Lib.hid (by rw [HXN.out] at ho4; exact ho4)
      clear ht4 ho4 hk4 hf4 HXP
      have HQ := Lib.hid (HRX.out w4 HS4.out)
      go_wp2_with fail
      with_reducible refine HQ.out.mono ?_
      rintro e w5 ⟨a5, c5, rfl, hr5⟩
      have HS5 := Lib.hid (HS4.out.below hr5.2.1)
      have HO5 := Lib.hid (ownsRow_same HO4.out (fun g hg => hr5.2.1.block g (HO4.out.lt g hg).2))
      have HY5 : Hid (w5.ownsRow 0 5 1 (.slice a5 xn c5) xn (X.map (Value.int .u8))) := Lib.hid (by have h := hr5.1; rw [HXN.out] at h; exact h)
      clear hr5 HQ HO4
      have HQ := Lib.hid (HIM.out w5 HS5.out)
      go_wp2_with fail
      with_reducible refine HQ.out.mono ?_
      rintro e w6 ⟨a6, c6, us, rfl, ht6, hk6, hu6, he6, hl6, hm6⟩
      have hT6 : ∀ i, i = tb → ∃ T', TyAt w5 i T' ∧ 5 ≠ T' := fun i hi => ⟨_, hi ▸ HS5.out.tab.ty, by decide⟩
      have HS6 := Lib.hid (HS5.out.step hk6 ht6)
      have HO6 := Lib.hid (hk6.row HO5.out hT6)
      have HY6 := Lib.hid (hk6.row HY5.out hT6)
      have HU6 := Lib.hid hu6
      have HE6 := Lib.hid he6
      have HL6 := Lib.hid (And.intro hl6 hm6)
      clear ht6 hk6 hu6 he6 hl6 hm6 hT6 HQ HO5 HY5
      have HQ := Lib.hid (HRI.out w6 HS6.out)
      go_wp2_with fail
      with_reducible refine HQ.out.mono ?_
      rintro e w7 ⟨a7, c7, vs, rfl, hb7, hv7, he7, hl7, hm7⟩
      have HS7 := Lib.hid (HS6.out.below hb7)
      have HO7 := Lib.hid (ownsRow_same HO6.out (fun g hg => hb7.block g (HO6.out.lt g hg).2))
      have HY7 := Lib.hid (ownsRow_same HY6.out (fun g hg => hb7.block g (HY6.out.lt g hg).2))
      have HE7 := Lib.hid (HE6.out.below hb7)
      have HV7 := Lib.hid hv7
      have HF7 := Lib.hid he7
      have HL7 := Lib.hid (And.intro hl7 hm7)
      clear hb7 hv7 he7 hl7 hm7 HQ HO6 HY6 HE6
      go_wp2_with fail
      refine (first22_any w7).mono ?_
      rintro e w8 ⟨rfl, hb8⟩
      have HS8 := Lib.hid (HS7.out.below hb8)
      have HO8 := Lib.hid (ownsRow_same HO7.out (fun g hg => hb8.block g (HO7.out.lt g hg).2))
      have HY8 := Lib.hid (ownsRow_same HY7.out (fun g hg => hb8.block g (HY7.out.lt g hg).2))
      have HE8 := Lib.hid (HE7.out.below hb8)
      have HF8 := Lib.hid (HF7.out.below hb8)
      clear hb8 HO7 HY7 HE7 HF7
      have HBY := Lib.hid (bytes_eq a4 a5 X X xn xn c4 c5 w8 HXN.out HXN.out (owns_at HO8.out).2.1 (owns_at HY8.out).2.1 HXI.out HXI.out)
      rw [eqB_self] at HBY
      have hee : (er == er) = true := by simp
      have hei : (ei == ei) = true := by simp
      go_wp2_with fail
      refine HBY.out.mono ?_
      rintro e w9 ⟨rfl, rfl⟩
      rename World => w8
      have HSM := Lib.hid (rsameC_any a6 a7 us vs ln ln c6 c7 w8 (by have := congrArg List.length HU6.out; rw [ersL_len, HLN.out] at this; exact this) (by have := congrArg List.length HV7.out; rw [ersL_len, HLN.out] at this; exact this) HE8.out HF8.out (by have := HIL.out; omega))
      rw [HU6.out, HV7.out, sameC_self] at HSM
      go_wp2_with fail
      refine HSM.out.mono ?_
      rintro e w9 ⟨rfl, hb9⟩
      have HS9 := Lib.hid (HS8.out.below hb9)
      clear hb9
      have HCS := Lib.hid (fun (wx : World) (hs : St W tb wx) => chain_same ao fo es fs k n2 c c2 wx HN.out HN2.out (HE.out.below hs.bel) (HE2.out.below hs.bel) HC.out.1 HC.out.2 HC2.out.1 HC2.out.2 (by have := HCB.out; omega))
      have HRS := Lib.hid (fun (wx : World) (hs : St W tb wx) => rsameC_any ao fo es fs k n2 c c2 wx HN.out HN2.out (HE.out.below hs.bel) (HE2.out.below hs.bel) (by have := HCB.out; omega))
      generalize sameC (ersL es) (ersL fs) = V at *
      have HQ := Lib.hid (HCS.out w9 HS9.out)
      go_wp2_with fail
      refine HQ.out.mono ?_
      rintro e w10 ⟨rfl, hb10⟩
      have HS10 := Lib.hid (HS9.out.below hb10)
      clear hb10 HQ
      have HQ := Lib.hid (HRS.out w10 HS10.out)
      have hvv : (V == V) = true := by simp
      go_wp2_with fail
      refine HQ.out.mono ?_
      rintro e w11 ⟨rfl, hb11⟩
      have HS11 := Lib.hid (HS10.out.below hb11)
      clear hb11 HQ
      go_wp2
      go_ret
      exact ⟨rfl, HS11.out.bel⟩

theorem walk_chainPlays (W : World) (ao : Option Addr) (es : List EV) (n c : Nat) (hn : es.length = n) (h : EntAt W ao es) (hcap : n ≤ c) (hcm : c ≤ maxLen)
    (fo : Option Addr) (fs : List EV) (n2 c2 : Nat) (hn2 : fs.length = n2) (h2 : EntAt W fo fs) (hcap2 : n2 ≤ c2) (hcm2 : c2 ≤ maxLen)
    (bo : Option Addr) (zs : List Int) (d : Nat) (hz : IntsAt .u8 W bo zs) (hcd : zs.length ≤ d) (wf : d ≤ maxLen ∧ ∀ n ∈ zs, (Lit.int .u8 n).wf = true) :
    Calls Try.prog 8 #[.slice ao n c, .slice fo n2 c2, .slice bo zs.length d] W fun e w' => e = .returned (.bool true) ∧ Below W.heap.size W w' :=
  cplays_core W ao es n c hn h hcap hcm fo fs n2 c2 hn2 h2 hcap2 hcm2 bo zs zs.length d rfl hz (inB_of_wf wf.2) hcd wf.1

end Go.Proofs.Ytbhoakohpfdeoaa
