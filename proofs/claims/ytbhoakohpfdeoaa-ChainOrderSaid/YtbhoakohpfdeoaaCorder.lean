/- ChainOrder is true for every input, and its arguments read behind the call as before; no condition: the walk. -/
import Derived.Test.YtbhoakohpfdeoaaChl
namespace Go.Proofs.Ytbhoakohpfdeoaa
open Go.RowKit
set_option linter.unusedVariables false
set_option linter.unusedSimpArgs false

theorem wrapEq (x : Int) : IntKind.i64.wrap x = wrap64 x := by simp only [IntKind.wrap_i64, wrap64]
theorem eqE_eq {x y : ER} (h : eqE (x, y) = true) : x = y := by
  unfold eqE eqB at h
  simp at h
  cases x; cases y
  simp_all
theorem sameC_eq2 {l m : List ER} (h : sameC l m = true) : l = m := by
  rw [sameC_eq, Bool.and_eq_true, decide_eq_true_eq, List.all_eq_true] at h
  refine List.ext_getElem h.1 (fun i h1 h2 => ?_)
  have hz : i < (l.zip m).length := by rw [List.length_zip]; omega
  have := h.2 (l.zip m)[i] (List.getElem_mem hz)
  rw [List.getElem_zip] at this
  exact eqE_eq this
theorem flat_set (x : EV) : ∀ (es : List EV) (i : Nat), i < es.length → (es.set i x).flatMap EV.cells = ((es.flatMap EV.cells).set (i * 2) (.int .i64 x.k)).set (i * 2 + 1) (.slice x.ao x.b.length x.c)
  | [], i, h => by simp at h
  | e :: es, 0, _ => by simp [EV.cells]
  | e :: es, i + 1, h => by
    have ih := flat_set x es i (by simpa using h)
    rw [List.set_cons_succ, List.flatMap_cons, ih, List.flatMap_cons]
    have e1 : (i + 1) * 2 = i * 2 + 2 := by omega
    rw [e1]
    simp [EV.cells]
/-- One of one's own entries set. -/
theorem row_setE {w : World} {g n cap : Nat} {es : List EV} (h : w.ownsRow 0 34 2 (.slice (some ⟨g, 0, none⟩) n cap) n (es.flatMap EV.cells)) (hn : es.length = n) (i : Nat) (hi : i < n) (x : EV) :
    ((w.setCell ⟨g, i * 2, none⟩ (.int .i64 x.k)).setCell ⟨g, i * 2 + 1, none⟩ (.slice x.ao x.b.length x.c)).ownsRow 0 34 2 (.slice (some ⟨g, 0, none⟩) n cap) n ((es.set i x).flatMap EV.cells) := by
  rw [flat_set x es i (by omega)]
  refine ⟨by simpa using h.1, ?_⟩
  rcases h.2 with ⟨hv, _⟩ | ⟨g', cap', cur, hv, hb, hh, hnc, hm, hs, ht⟩
  · cases hv
  · simp only [Value.slice.injEq, Option.some.injEq, Addr.mk.injEq] at hv
    obtain ⟨⟨rfl, _⟩, _, rfl⟩ := hv
    refine Or.inr ⟨g, cap, (cur.setIfInBounds (i * 2) (.int .i64 x.k)).setIfInBounds (i * 2 + 1) (.slice x.ao x.b.length x.c), rfl, hb, blk_set (blk_set hh _ _) _ _, hnc, hm, by simpa using hs, ?_⟩
    rw [Array.toList_setIfInBounds, Array.toList_setIfInBounds, List.take_set, List.take_set, ht]
/-- The entries' cells, for an append. -/
theorem src_ents {w : World} {ao : Option Addr} {es : List EV} (h : EntAt w ao es) : ∀ ad, ao = some ad → ∀ j u, (es.flatMap EV.cells)[j]? = some u → w.cell? (ad.add j) = some u := by
  intro ad had j u hu
  have hl : (es.flatMap EV.cells).length = es.length * 2 := by
    clear h hu
    induction es with
    | nil => rfl
    | cons e es ih => rw [List.flatMap_cons, List.length_append, ih]; simp [EV.cells]; omega
  have hj : j < es.length * 2 := by
    rw [← hl]
    exact (List.getElem?_eq_some_iff.1 hu).1
  have hi : j / 2 < es.length := by omega
  obtain ⟨b, off, hb, c0, c1⟩ := h.at (j / 2) hi
  rw [hb] at had
  cases had
  rw [addr_add]
  have hg := flat_get EV.cells 2 (fun _ => rfl) es (j / 2) hi (j % 2) (by omega)
  have e : j / 2 * 2 + j % 2 = j := by omega
  rw [e, hu] at hg
  rcases Nat.mod_two_eq_zero_or_one j with hm | hm
  · rw [hm] at hg
    have e2 : off + j = off + j / 2 * 2 := by omega
    rw [e2, c0]; exact hg.symm
  · rw [hm] at hg
    have e2 : off + j = off + j / 2 * 2 + 1 := by omega
    rw [e2, c1]; exact hg.symm
theorem ents_one (es : List EV) : ∀ u ∈ es.flatMap EV.cells, u.oneCell' = true := fun u hu => by
  obtain ⟨e, _, h⟩ := List.mem_flatMap.1 hu
  simp only [EV.cells, List.mem_cons, List.not_mem_nil, or_false] at h
  rcases h with h | h <;> rw [h] <;> rfl
theorem mem_swap {α : Type} {es : List α} {i k : Nat} (hi : i < es.length) (hk : k < es.length) : ∀ e ∈ (es.set i es[k]).set k es[i], e ∈ es := fun e he => by
  rcases List.mem_or_eq_of_mem_set he with h | h
  · rcases List.mem_or_eq_of_mem_set h with h | h
    · exact h
    · rw [h]; exact List.getElem_mem hk
  · rw [h]; exact List.getElem_mem hi
theorem ents_len (es : List EV) : (es.flatMap EV.cells).length = es.length * 2 := by
  induction es with
  | nil => rfl
  | cons e es ih => rw [List.flatMap_cons, List.length_append, ih]; simp [EV.cells]; omega
theorem erase_take {α : Type} (es : List α) (i j : Nat) (h : j < es.length) : (es.take (j + 1)).eraseIdx i = (es.take j).eraseIdx i ++ (if j = i then [] else [es[j]]) := by
  rw [List.take_add_one, List.getElem?_eq_getElem h]
  have hl : (es.take j).length = j := by rw [List.length_take]; omega
  show (es.take j ++ [es[j]]).eraseIdx i = _
  rw [List.eraseIdx_append]
  by_cases h1 : i < j
  · rw [if_pos (by rw [hl]; exact h1), if_neg (by omega)]
  · have e1 : (es.take j).eraseIdx i = es.take j := List.eraseIdx_of_length_le (by rw [hl]; omega)
    rw [if_neg (by rw [hl]; exact h1), e1, hl]
    congr 1
    by_cases h2 : j = i
    · subst h2
      rw [if_pos rfl, Nat.sub_self]; rfl
    · rw [if_neg h2]
      exact List.eraseIdx_of_length_le (by simp; omega)
/-- The address behind so many entries. -/
def slcE (ro : Option Addr) (lo rc : Nat) : Option Addr := if rc = lo then ro else ro.map (·.add (lo * 2))
theorem slice_el (ro : Option Addr) (q rc lo : Nat) (h1 : lo ≤ q) (w : World) :
    (Instr.slice 22 (.slice ro q rc) (some (.int .i64 (lo : Int))) none none).run Try.prog w = .ok (.slice (slcE ro lo rc) (q - lo) (rc - lo)) w := by
  have hu := Try.underlying22
  unfold slcE
  simp [go_sem, hu, h1]
theorem slice_eh (ro : Option Addr) (q rc hi : Nat) (h2 : hi ≤ rc) (w : World) :
    (Instr.slice 22 (.slice ro q rc) none (some (.int .i64 (hi : Int))) none).run Try.prog w = .ok (.slice ro hi rc) w := by
  have hu := Try.underlying22
  cases ro with
  | none => simp [go_sem, hu, h2]
  | some a => simp [go_sem, hu, h2, Addr.add]
theorem EntAt.takeE {w : World} {ao : Option Addr} {es : List EV} (h : EntAt w ao es) (k : Nat) : EntAt w ao (es.take k) := by
  refine ⟨?_, fun e he => h.2 e (List.mem_of_mem_take he)⟩
  rcases h.1 with h0 | ⟨b, off, h1, h3⟩
  · rw [h0]; exact Or.inl (by simp)
  · refine Or.inr ⟨b, off, h1, fun i hi => ?_⟩
    rw [List.length_take] at hi
    have h4 := h3 i (by omega)
    rw [List.getElem_take]
    exact h4
theorem EntAt.dropE {w : World} {ao : Option Addr} {es : List EV} {n c : Nat} (h : EntAt w ao es) (hn : es.length = n) (hc : n ≤ c) (k : Nat) (hk : k ≤ n) : EntAt w (slcE ao k c) (es.drop k) := by
  refine ⟨?_, fun e he => h.2 e (List.mem_of_mem_drop he)⟩
  by_cases hkc : c = k
  · exact Or.inl (List.drop_eq_nil_of_le (by omega))
  · rcases h.1 with h0 | ⟨b, off, h1, h3⟩
    · rw [h0]; exact Or.inl (by simp)
    · refine Or.inr ⟨b, off + k * 2, by unfold slcE; rw [if_neg hkc, h1, Option.map_some, addr_add], fun i hi => ?_⟩
      rw [List.length_drop] at hi
      have h4 := h3 (k + i) (by omega)
      rw [List.getElem_drop]
      have e1 : off + k * 2 + i * 2 = off + (k + i) * 2 := by omega
      rw [e1]
      exact h4

/-- Three chains, two rows. -/
structure OE (W w : World) (tb p q r : Nat) (A B C : List ER) (mo ro : Option Addr) (MS RS : List EV) (n mc rn rc : Nat) : Prop where
  st : St W tb w
  a : CI tb w p A
  b : CI tb w q B
  c : CI tb w r C
  m : w.ownsRow 0 34 2 (.slice mo n mc) n (MS.flatMap EV.cells)
  rr : w.ownsRow 0 34 2 (.slice ro rn rc) rn (RS.flatMap EV.cells)
theorem OE.below {W w w' : World} {tb p q r : Nat} {A B C : List ER} {mo ro : Option Addr} {MS RS : List EV} {n mc rn rc : Nat} (h : OE W w tb p q r A B C mo ro MS RS n mc rn rc) (hb : Below w.heap.size w w') : OE W w' tb p q r A B C mo ro MS RS n mc rn rc :=
  ⟨h.st.below hb, h.a.below hb, h.b.below hb, h.c.below hb, ownsRow_same h.m (fun g hg => hb.block g (h.m.lt g hg).2), ownsRow_same h.rr (fun g hg => hb.block g (h.rr.lt g hg).2)⟩
theorem row32 {w w' : World} {ao : Option Addr} {c : Nat} {l : List ER} (h : RowAt w (.slice ao 32 c) (headC l) w') : IntsAt .u8 w' ao (headC l) := by
  have h1 := h.1
  rw [headC_len] at h1
  exact (owns_at h1).2.1

set_option maxRecDepth 100000 in
set_option maxHeartbeats 4000000 in
theorem walk_chainOrder' (W : World) (ao : Option Addr) (es : List EV) (n c : Nat) (hn : es.length = n) (h : EntAt W ao es) (hcap : n ≤ c) (hcm : c ≤ maxLen) (I K : Int) :
    Calls Try.prog 4 #[.slice ao n c, .int .i64 I, .int .i64 K] W fun e w' => e = .returned (.bool true) ∧ Below W.heap.size W w' := by
  have HN := Lib.hid hn
  have HE := Lib.hid h
  have HC := Lib.hid (And.intro hcap hcm)
  clear hn h hcap hcm
  go_enter Try.func4, Try.ntmps4
  go_wp2_with fail
  refine (first22_any W).mono ?_
  rintro e w1 ⟨rfl, hb1⟩
  have HB1 := Lib.hid hb1
  clear hb1
  have HF := Lib.hid (few22_any ao es n c w1 HN.out (HE.out.below HB1.out) HC.out.1 HC.out.2)
  have HFF := Lib.hid (@few22_facts es)
  have HFI := Lib.hid (first22_any w1)
  generalize fewB (es.map (fun e => e.b.length)) 100 100000 = F at *
  go_wp2_with fail
  refine HF.out.mono ?_
  rintro e w9 ⟨rfl, rfl⟩
  cases F with
  | false =>
    go_wp2_with fail
    refine HFI.out.mono ?_
    rintro e w2 ⟨rfl, hb2⟩
    have HB2 := Lib.hid (below_step HB1.out hb2)
    clear hb2
    go_wp2
    go_ret
    exact ⟨rfl, HB2.out⟩
  | true =>
  have HFS := Lib.hid (HFF.out rfl)
  clear HF HFF
  by_cases h1 : (50 : Int) < (n : Int)
  · go_wp2_with fail
    refine HFI.out.mono ?_
    rintro e w2 ⟨rfl, hb2⟩
    have HB2 := Lib.hid (below_step HB1.out hb2)
    clear hb2
    go_wp2
    go_ret
    exact ⟨rfl, HB2.out⟩
  by_cases h2 : I < 0
  · go_wp2_with fail
    refine HFI.out.mono ?_
    rintro e w2 ⟨rfl, hb2⟩
    have HB2 := Lib.hid (below_step HB1.out hb2)
    clear hb2
    go_wp2
    go_ret
    exact ⟨rfl, HB2.out⟩
  by_cases h3 : (n : Int) ≤ I
  · go_wp2_with fail
    refine HFI.out.mono ?_
    rintro e w2 ⟨rfl, hb2⟩
    have HB2 := Lib.hid (below_step HB1.out hb2)
    clear hb2
    go_wp2
    go_ret
    exact ⟨rfl, HB2.out⟩
  by_cases h4 : K < 0
  · go_wp2_with fail
    refine HFI.out.mono ?_
    rintro e w2 ⟨rfl, hb2⟩
    have HB2 := Lib.hid (below_step HB1.out hb2)
    clear hb2
    go_wp2
    go_ret
    exact ⟨rfl, HB2.out⟩
  by_cases h5 : (n : Int) ≤ K
  · go_wp2_with fail
    refine HFI.out.mono ?_
    rintro e w2 ⟨rfl, hb2⟩
    have HB2 := Lib.hid (below_step HB1.out hb2)
    clear hb2
    go_wp2
    go_ret
    exact ⟨rfl, HB2.out⟩
  obtain ⟨i, rfl⟩ : ∃ i : Nat, I = (i : Int) := ⟨I.toNat, by omega⟩
  obtain ⟨k, rfl⟩ : ∃ k : Nat, K = (k : Int) := ⟨K.toNat, by omega⟩
  have HIK : Hid (i < n ∧ k < n ∧ n ≤ 50) := Lib.hid (by omega)
  go_wp2_with fail
  refine (newTable_any w1).mono ?_
  rintro e w2 ⟨rfl, ht2, hb2⟩
  have HS2 : Hid (St W w1.heap.size w2) := Lib.hid ⟨ht2, below_step HB1.out hb2, HB1.out.size⟩
  clear ht2 hb2 HB1 h1 h2 h3 h4 h5 HFI
  generalize w1.heap.size = tb at *
  have HCN := Lib.hid (chain_new tb w2 HS2.out.tab)
  go_wp2_with fail
  refine HCN.out.mono ?_
  rintro e w3 ⟨p, rfl, _, hc3, hb3, hp3⟩
  have HS3 := Lib.hid (HS2.out.below hb3)
  have HA3 := Lib.hid hc3
  have HPW : Hid (W.heap.size ≤ p) := Lib.hid (Nat.le_trans HS2.out.bel.size hp3)
  clear hc3 hb3 hp3 HCN HS2
  have HCN := Lib.hid (chain_new tb w3 HS3.out.tab)
  go_wp2_with fail
  refine HCN.out.mono ?_
  rintro e w4 ⟨q, rfl, _, hc4, hb4, hq4⟩
  have HS4 := Lib.hid (HS3.out.below hb4)
  have HA4 := Lib.hid (HA3.out.below hb4)
  have HC4 := Lib.hid hc4
  have HQW : Hid (W.heap.size ≤ q ∧ p ≠ q) := Lib.hid ⟨Nat.le_trans HS3.out.bel.size hq4, by have := HA3.out.lt; omega⟩
  clear hc4 hb4 hq4 HCN HS3 HA3
  have HCN := Lib.hid (chain_new tb w4 HS4.out.tab)
  go_wp2_with fail
  refine HCN.out.mono ?_
  rintro e w5 ⟨r, rfl, _, hc5, hb5, hr5⟩
  have HS5 := Lib.hid (HS4.out.below hb5)
  have HA5 := Lib.hid (HA4.out.below hb5)
  have HC5 := Lib.hid (HC4.out.below hb5)
  have HD5 := Lib.hid hc5
  have HRW : Hid (W.heap.size ≤ r ∧ p ≠ r ∧ q ≠ r) := Lib.hid ⟨Nat.le_trans HS4.out.bel.size hr5, by have := HA4.out.lt; omega, by have := HC4.out.lt; omega⟩
  clear hc5 hb5 hr5 HCN HS4 HA4 HC4
  go_upto_region 9 with fail
  have HE5 := Lib.hid (HE.out.below HS5.out.bel)
  obtain ⟨i0, hi0, hz0, hz1, hz2⟩ := info_parts Try_infoE
  have HM0 : Hid ((w5.alloc (.cells #[] 34)).ownsRow 0 34 2 (.slice (some ⟨w5.heap.size, 0, none⟩) 0 0) 0 []) := Lib.hid ⟨rfl, Or.inr ⟨w5.heap.size, 0, #[], rfl, Nat.zero_le _, heap_alloc_new _ _, Nat.zero_le _, Nat.zero_le _, rfl, rfl⟩⟩
  have HB6 : Hid (Below w5.heap.size w5 (w5.alloc (.cells #[] 34))) := Lib.hid ((Below.refl _ _).alloc (Nat.le_refl _) _)
  have HSE := Lib.hid (src_ents (HE5.out.below HB6.out))
  have HLE : Hid ((es.flatMap EV.cells).length = n * 2) := Lib.hid (by rw [ents_len, HN.out])
  have HNZ : Hid (ao ≠ none) := Lib.hid (fun e => by
    obtain ⟨b, off, h⟩ := HE.out.some (fun e => by have h := HN.out; rw [e] at h; have := HIK.out; simp at h; omega)
    rw [e] at h; cases h)
  go_wp2_with (at_builtin; refine wpList_append_any rfl _ _ 22 rfl 34 i0 _ 2 32 Try.underlying22 hi0 hz0 hz1 hz2 rfl (by decide) (.slice (some ⟨w5.heap.size, 0, none⟩) 0 0) 0 [] rfl HM0.out ao n c (es.flatMap EV.cells) rfl ?c1 ?c2 ?c3 ?c4 ?c5 ?c6 ?_)
  case c1 => exact HLE.out
  case c2 => intro e; exact absurd e HNZ.out
  case c3 => exact HSE.out
  case c4 => exact ents_one es
  case c5 => have := HIK.out; unfold maxLen; omega
  case c6 => have := HIK.out; omega
  intro mo mc w6 hown hgrow hat hnn
  have hb6 : Below w5.heap.size w5 w6 := below_fp HB6.out ((Keeps.refl (fun i => (Value.slice (some (⟨w5.heap.size, 0, none⟩ : Addr)) 0 0).ownBlock = some i) _).grown hgrow (fun i hi => Or.inl hi)) (fun i hi => by simp only [Value.ownBlock, Option.some.injEq] at hi; omega)
  have HS6 := Lib.hid (HS5.out.below hb6)
  have HA6 := Lib.hid (HA5.out.below hb6)
  have HC6 := Lib.hid (HC5.out.below hb6)
  have HD6 := Lib.hid (HD5.out.below hb6)
  have HR6 := Lib.hid hown
  have HMF : Hid (∀ g, (Value.slice mo n mc).ownBlock = some g → W.heap.size ≤ g) := Lib.hid (fun g hg => by
    have := HS5.out.bel.size
    rcases hat g hg with h | h
    · simp only [Value.ownBlock, Option.some.injEq] at h; omega
    · have := HB6.out.size; omega)
  clear hown hgrow hat hnn hb6 HS5 HA5 HC5 HD5 HM0 HB6 HSE HE5
  obtain ⟨mb, rfl, _⟩ := own_cell HR6.out (by have := HIK.out; omega)
  obtain ⟨_, _, hmv, hm1, hm2⟩ := own_shape HR6.out
  simp only [Value.slice.injEq] at hmv
  obtain ⟨rfl, _, rfl⟩ := hmv
  have HMC := Lib.hid (And.intro hm1 hm2)
  clear hm1 hm2
  have HME := Lib.hid (own_entAt HR6.out (fun e he => (HE.out.below HS6.out.bel).2 e he) HN.out)
  have hki : i < es.length := by rw [HN.out]; exact HIK.out.1
  have hkk : k < es.length := by rw [HN.out]; exact HIK.out.2.1
  obtain ⟨y0, y1⟩ := HME.out.off i hki
  obtain ⟨z0, z1⟩ := HME.out.off k hkk
  rw [Nat.zero_add] at y0 y1 z0 z1
  have i1 : (i : Int) < (n : Int) := by have := HIK.out; omega
  have i2 : (k : Int) < (n : Int) := by have := HIK.out; omega
  obtain ⟨ei, hei⟩ : ∃ ei, ei = es[i] := ⟨_, rfl⟩
  obtain ⟨ek, hek⟩ : ∃ ek, ek = es[k] := ⟨_, rfl⟩
  rw [← hei] at y0 y1
  rw [← hek] at z0 z1
  obtain ⟨mi, hmi⟩ : ∃ mi, mi = ei.b.length := ⟨_, rfl⟩
  obtain ⟨mk, hmk⟩ : ∃ mk, mk = ek.b.length := ⟨_, rfl⟩
  rw [← hmi] at y1
  rw [← hmk] at z1
  have HEQ : Hid (ei = es[i] ∧ ek = es[k] ∧ ei.b.length = mi ∧ ek.b.length = mk) := Lib.hid ⟨hei, hek, hmi.symm, hmk.symm⟩
  clear hei hek hmi hmk
  obtain ⟨fi0, hfi⟩ : ∃ cs, w6.heap[mb]? = some (.cells cs 34 (0, 0)) := row_ty HR6.out rfl
  have g0 := blk_frozen hfi (i * 2)
  have g1 := blk_frozen hfi (i * 2 + 1)
  have g2 := blk_frozen hfi (k * 2)
  have g3 := blk_frozen hfi (k * 2 + 1)
  obtain ⟨MS, hMS⟩ : ∃ MS, MS = (es.set i ek).set k ei := ⟨_, rfl⟩
  have HMS := Lib.hid hMS
  have HML : Hid (MS.length = n) := Lib.hid (by rw [hMS, List.length_set, List.length_set, HN.out])
  have HMI : Hid (∀ e ∈ MS, e ∈ es) := Lib.hid (by rw [hMS, HEQ.out.1, HEQ.out.2.1]; exact mem_swap hki hkk)
  clear hMS
  go_upto_region 10 with fail
  go_cut [] (fun wx => St W tb wx ∧ CI tb wx p [] ∧ CI tb wx q [] ∧ CI tb wx r [] ∧ wx.ownsRow 0 34 2 (.slice (some ⟨mb, 0, none⟩) n mc) n (MS.flatMap EV.cells))
  case first =>
    refine wp_region_held_drew (S := fun _ => True) (by kernel_rfl) ?_ (fun hHeld => ?_)
    · trivial
    refine take_at (i := 0) (d := 65) (v := ?_) rfl rfl (by kernel_rfl) (by kernel_rfl) (by kernel_rfl) (fun _ _ _ h => h) (Or.inl ⟨by rfl, by intro w' hSw; (try dsimp only at hSw); go_simp; try with_reducible rfl⟩) (by assumption) ?_
    simp only [List.setIfInBounds_toArray, List.set_cons_zero, List.set_cons_succ]
    refine take_at (i := 1) (d := 66) (v := ?_) rfl rfl (by kernel_rfl) (by kernel_rfl) (by kernel_rfl) (fun _ _ _ h => h) (Or.inl ⟨by rfl, by intro w' hSw; (try dsimp only at hSw); go_simp; try with_reducible rfl⟩) (by assumption) ?_
    simp only [List.setIfInBounds_toArray, List.set_cons_zero, List.set_cons_succ]
    refine take_at (i := 2) (d := 67) (v := ?_) rfl rfl (by kernel_rfl) (by kernel_rfl) (by kernel_rfl) (fun _ _ _ h => h) (Or.inl ⟨by rfl, by intro w' hSw; (try dsimp only at hSw); go_simp; try with_reducible rfl⟩) (by assumption) ?_
    simp only [List.setIfInBounds_toArray, List.set_cons_zero, List.set_cons_succ]
    refine take_at (i := 3) (d := 68) (v := ?_) rfl rfl (by kernel_rfl) (by kernel_rfl) (by kernel_rfl) (fun _ _ _ h => h) (Or.inl ⟨by rfl, by intro w' hSw; (try dsimp only at hSw); go_simp; try with_reducible rfl⟩) (by assumption) ?_
    simp only [List.setIfInBounds_toArray, List.set_cons_zero, List.set_cons_succ]
    refine take_at (i := 4) (d := 69) (v := ?_) rfl rfl (by kernel_rfl) (by kernel_rfl) (by kernel_rfl) (fun _ _ _ h => h) (Or.inl ⟨by rfl, by intro w' hSw; (try dsimp only at hSw); go_simp; try with_reducible rfl⟩) (by assumption) ?_
    simp only [List.setIfInBounds_toArray, List.set_cons_zero, List.set_cons_succ]
    refine take_at (i := 5) (d := 70) (v := ?_) rfl rfl (by kernel_rfl) (by kernel_rfl) (by kernel_rfl) (fun _ _ _ h => h) (Or.inl ⟨by rfl, by intro w' hSw; (try dsimp only at hSw); go_simp; try with_reducible rfl⟩) (by assumption) ?_
    simp only [List.setIfInBounds_toArray, List.set_cons_zero, List.set_cons_succ]
    refine take_at (i := 6) (d := 71) (v := ?_) rfl rfl (by kernel_rfl) (by kernel_rfl) (by kernel_rfl) (fun _ _ _ h => h) (Or.inl ⟨by rfl, by intro w' hSw; (try dsimp only at hSw); go_simp; try with_reducible rfl⟩) (by assumption) ?_
    simp only [List.setIfInBounds_toArray, List.set_cons_zero, List.set_cons_succ]
    refine take_at (i := 8) (d := 73) (v := ?_) rfl rfl (by kernel_rfl) (by kernel_rfl) (by kernel_rfl) (fun _ _ _ h => h) (Or.inl ⟨by rfl, by intro w' hSw; (try dsimp only at hSw); go_simp; try with_reducible rfl⟩) (by assumption) ?_
    simp only [List.setIfInBounds_toArray, List.set_cons_zero, List.set_cons_succ]
    refine take_at (i := 9) (d := 74) (v := ?_) rfl rfl (by kernel_rfl) (by kernel_rfl) (by kernel_rfl) (fun _ _ _ h => h) (Or.inl ⟨by rfl, by intro w' hSw; (try dsimp only at hSw); go_simp; try with_reducible rfl⟩) (by assumption) ?_
    simp only [List.setIfInBounds_toArray, List.set_cons_zero, List.set_cons_succ]
    refine take_at (i := 10) (d := 75) (v := ?_) rfl rfl (by kernel_rfl) (by kernel_rfl) (by kernel_rfl) (fun _ _ _ h => h) (Or.inl ⟨by rfl, by intro w' hSw; (try dsimp only at hSw); go_simp; try with_reducible rfl⟩) (by assumption) ?_
    simp only [List.setIfInBounds_toArray, List.set_cons_zero, List.set_cons_succ]
    refine wpAnyH_ready (rs := [7, 11]) (by kernel_rfl) (by simp) ?_
    refine AllReadyH.cons rfl (fun K hK => ?_) (AllReadyH.cons rfl (fun K hK => ?_) (AllReadyH.nil))
    · skip
      go_simp
      go_wp2_with fail
      refine hK.out _ _ ?_ (fun hHeld => ?_)
      · trivial
      clear hK K
      try simp only [Act.put, List.getElem_toArray, List.getElem_cons_succ, List.getElem_cons_zero]
      try simp only [List.setIfInBounds_toArray, List.set_cons_zero, List.set_cons_succ]
      refine wpAnyH_ready (rs := [11]) (by kernel_rfl) (by simp) ?_
      refine AllReadyH.cons rfl (fun K hK => ?_) AllReadyH.nil
      go_simp
      go_wp2_with fail
      refine hK.out _ _ ?_ (fun hHeld => ?_)
      · trivial
      clear hK K
      try simp only [Act.put, List.getElem_toArray, List.getElem_cons_succ, List.getElem_cons_zero]
      try simp only [List.setIfInBounds_toArray, List.set_cons_zero, List.set_cons_succ]
      refine take_at (i := 12) (d := 77) (v := ?_) rfl rfl (by kernel_rfl) (by kernel_rfl) (by kernel_rfl) (fun _ _ _ h => h) (Or.inl ⟨by rfl, by intro w' hSw; (try dsimp only at hSw); go_simp; try with_reducible rfl⟩) (by assumption) ?_
      simp only [List.setIfInBounds_toArray, List.set_cons_zero, List.set_cons_succ]
      refine wpAnyH_ready (rs := [13]) (by kernel_rfl) (by simp) ?_
      refine AllReadyH.cons rfl (fun K hK => ?_) AllReadyH.nil
      go_simp
      go_wp2_with fail
      refine hK.out _ _ ?_ (fun hHeld => ?_)
      · trivial
      clear hK K
      try simp only [Act.put, List.getElem_toArray, List.getElem_cons_succ, List.getElem_cons_zero]
      try simp only [List.setIfInBounds_toArray, List.set_cons_zero, List.set_cons_succ]
      refine take_at (i := 14) (d := 78) (v := ?_) rfl rfl (by kernel_rfl) (by kernel_rfl) (by kernel_rfl) (fun _ _ _ h => h) (Or.inl ⟨by rfl, by intro w' hSw; (try dsimp only at hSw); go_simp; try with_reducible rfl⟩) (by assumption) ?_
      simp only [List.setIfInBounds_toArray, List.set_cons_zero, List.set_cons_succ]
      obtain ⟨w7, hw7⟩ : ∃ w7, w7 = ((w6.setCell ⟨mb, i * 2, none⟩ (.int .i64 ek.k)).setCell ⟨mb, i * 2 + 1, none⟩ (.slice ek.ao mk ek.c)).drew := ⟨_, rfl⟩
      rw [← hw7]
      have HR7 : Hid (w7.ownsRow 0 34 2 (.slice (some ⟨mb, 0, none⟩) n mc) n ((es.set i ek).flatMap EV.cells)) := Lib.hid (by rw [hw7]; have h := row_setE HR6.out HN.out i HIK.out.1 ek; rw [HEQ.out.2.2.2] at h; exact h)
      have HK7 : Hid (Keeps (fun i => i = mb) w6 w7) := Lib.hid (by rw [hw7]; exact (((Keeps.refl (fun i => i = mb) w6).setCell (p := ⟨mb, i * 2, none⟩) (Or.inl rfl) _).setCell (p := ⟨mb, i * 2 + 1, none⟩) (Or.inl rfl) _).drew)
      obtain ⟨cs7, hf7⟩ : ∃ cs, w7.heap[mb]? = some (.cells cs 34 (0, 0)) := row_ty HR7.out rfl
      obtain ⟨_, hmq, hc7⟩ := own_cell HR7.out (by have := HIK.out; omega)
      cases hmq
      have hk7 : k < (es.set i ek).length := by rw [List.length_set]; exact hkk
      have q0 := hc7 (k * 2 + 0) _ (by rw [flat_get EV.cells 2 (fun _ => rfl) (es.set i ek) k hk7 0 (by omega)]; rfl)
      have q1 := hc7 (k * 2 + 1) _ (by rw [flat_get EV.cells 2 (fun _ => rfl) (es.set i ek) k hk7 1 (by omega)]; rfl)
      rw [Nat.add_zero] at q0
      have r0 := blk_frozen hf7 (k * 2)
      have r1 := blk_frozen hf7 (k * 2 + 1)
      clear hc7 hw7
      refine wpAnyH_ready (rs := [15]) (by kernel_rfl) (by simp) ?_
      refine AllReadyH.cons rfl (fun K hK => ?_) AllReadyH.nil
      go_simp
      go_wp2_with fail
      refine hK.out _ _ ?_ (fun hHeld => ?_)
      · trivial
      clear hK K
      try simp only [Act.put, List.getElem_toArray, List.getElem_cons_succ, List.getElem_cons_zero]
      try simp only [List.setIfInBounds_toArray, List.set_cons_zero, List.set_cons_succ]
      refine wpAnyH_done (by kernel_rfl) ?_ _
      obtain ⟨w8, hw8⟩ : ∃ w8, w8 = (w7.setCell ⟨mb, k * 2, none⟩ (.int .i64 ei.k)).setCell ⟨mb, k * 2 + 1, none⟩ (.slice ei.ao mi ei.c) := ⟨_, rfl⟩
      rw [← hw8]
      have HR8 : Hid (w8.ownsRow 0 34 2 (.slice (some ⟨mb, 0, none⟩) n mc) n (MS.flatMap EV.cells)) := Lib.hid (by rw [hw8, HMS.out]; have h := row_setE HR7.out (by rw [List.length_set, HN.out]) k HIK.out.2.1 ei; rw [HEQ.out.2.2.1] at h; exact h)
      have HK8 : Hid (Keeps (fun i => i = mb) w6 w8) := Lib.hid (by rw [hw8]; exact (HK7.out.setCell (p := ⟨mb, k * 2, none⟩) (Or.inl rfl) _).setCell (p := ⟨mb, k * 2 + 1, none⟩) (Or.inl rfl) _)
      have hS8 : ∀ i, i = mb → TyAt w6 i 34 := fun i hi => ⟨_, _, hi ▸ hfi⟩
      have HS8 : Hid (St W tb w8) := Lib.hid ⟨tab_keep HS6.out.tab HK8.out (fun e => by
        obtain ⟨cs, f, h3⟩ := HS6.out.tab.ty
        exact (hS8 tb e).ne h3 (by decide) rfl), below_fp HS6.out.bel HK8.out (fun i hi => by rw [hi]; exact HMF.out mb rfl), HS6.out.own⟩
      have HCK := Lib.hid (fun (x : Nat) (h : CI tb w6 x []) => h.keepT HK8.out (fun i hi => ⟨_, hS8 i hi, by decide, by decide⟩))
      clear hw8 hS8
      go_wp2_with fail
      go_meet
      case rel => exact ⟨HS8.out, HCK.out p HA6.out, HCK.out q HC6.out, HCK.out r HD6.out, HR8.out⟩
    · skip
      go_simp
      go_wp2_with fail
      refine hK.out _ _ ?_ (fun hHeld => ?_)
      · trivial
      clear hK K
      try simp only [Act.put, List.getElem_toArray, List.getElem_cons_succ, List.getElem_cons_zero]
      try simp only [List.setIfInBounds_toArray, List.set_cons_zero, List.set_cons_succ]
      refine wpAnyH_ready (rs := [7]) (by kernel_rfl) (by simp) ?_
      refine AllReadyH.cons rfl (fun K hK => ?_) AllReadyH.nil
      go_simp
      go_wp2_with fail
      refine hK.out _ _ ?_ (fun hHeld => ?_)
      · trivial
      clear hK K
      try simp only [Act.put, List.getElem_toArray, List.getElem_cons_succ, List.getElem_cons_zero]
      try simp only [List.setIfInBounds_toArray, List.set_cons_zero, List.set_cons_succ]
      refine take_at (i := 12) (d := 77) (v := ?_) rfl rfl (by kernel_rfl) (by kernel_rfl) (by kernel_rfl) (fun _ _ _ h => h) (Or.inl ⟨by rfl, by intro w' hSw; (try dsimp only at hSw); go_simp; try with_reducible rfl⟩) (by assumption) ?_
      simp only [List.setIfInBounds_toArray, List.set_cons_zero, List.set_cons_succ]
      refine wpAnyH_ready (rs := [13]) (by kernel_rfl) (by simp) ?_
      refine AllReadyH.cons rfl (fun K hK => ?_) AllReadyH.nil
      go_simp
      go_wp2_with fail
      refine hK.out _ _ ?_ (fun hHeld => ?_)
      · trivial
      clear hK K
      try simp only [Act.put, List.getElem_toArray, List.getElem_cons_succ, List.getElem_cons_zero]
      try simp only [List.setIfInBounds_toArray, List.set_cons_zero, List.set_cons_succ]
      refine take_at (i := 14) (d := 78) (v := ?_) rfl rfl (by kernel_rfl) (by kernel_rfl) (by kernel_rfl) (fun _ _ _ h => h) (Or.inl ⟨by rfl, by intro w' hSw; (try dsimp only at hSw); go_simp; try with_reducible rfl⟩) (by assumption) ?_
      simp only [List.setIfInBounds_toArray, List.set_cons_zero, List.set_cons_succ]
      obtain ⟨w7, hw7⟩ : ∃ w7, w7 = ((w6.setCell ⟨mb, i * 2, none⟩ (.int .i64 ek.k)).setCell ⟨mb, i * 2 + 1, none⟩ (.slice ek.ao mk ek.c)).drew := ⟨_, rfl⟩
      rw [← hw7]
      have HR7 : Hid (w7.ownsRow 0 34 2 (.slice (some ⟨mb, 0, none⟩) n mc) n ((es.set i ek).flatMap EV.cells)) := Lib.hid (by rw [hw7]; have h := row_setE HR6.out HN.out i HIK.out.1 ek; rw [HEQ.out.2.2.2] at h; exact h)
      have HK7 : Hid (Keeps (fun i => i = mb) w6 w7) := Lib.hid (by rw [hw7]; exact (((Keeps.refl (fun i => i = mb) w6).setCell (p := ⟨mb, i * 2, none⟩) (Or.inl rfl) _).setCell (p := ⟨mb, i * 2 + 1, none⟩) (Or.inl rfl) _).drew)
      obtain ⟨cs7, hf7⟩ : ∃ cs, w7.heap[mb]? = some (.cells cs 34 (0, 0)) := row_ty HR7.out rfl
      obtain ⟨_, hmq, hc7⟩ := own_cell HR7.out (by have := HIK.out; omega)
      cases hmq
      have hk7 : k < (es.set i ek).length := by rw [List.length_set]; exact hkk
      have q0 := hc7 (k * 2 + 0) _ (by rw [flat_get EV.cells 2 (fun _ => rfl) (es.set i ek) k hk7 0 (by omega)]; rfl)
      have q1 := hc7 (k * 2 + 1) _ (by rw [flat_get EV.cells 2 (fun _ => rfl) (es.set i ek) k hk7 1 (by omega)]; rfl)
      rw [Nat.add_zero] at q0
      have r0 := blk_frozen hf7 (k * 2)
      have r1 := blk_frozen hf7 (k * 2 + 1)
      clear hc7 hw7
      refine wpAnyH_ready (rs := [15]) (by kernel_rfl) (by simp) ?_
      refine AllReadyH.cons rfl (fun K hK => ?_) AllReadyH.nil
      go_simp
      go_wp2_with fail
      refine hK.out _ _ ?_ (fun hHeld => ?_)
      · trivial
      clear hK K
      try simp only [Act.put, List.getElem_toArray, List.getElem_cons_succ, List.getElem_cons_zero]
      try simp only [List.setIfInBounds_toArray, List.set_cons_zero, List.set_cons_succ]
      refine wpAnyH_done (by kernel_rfl) ?_ _
      obtain ⟨w8, hw8⟩ : ∃ w8, w8 = (w7.setCell ⟨mb, k * 2, none⟩ (.int .i64 ei.k)).setCell ⟨mb, k * 2 + 1, none⟩ (.slice ei.ao mi ei.c) := ⟨_, rfl⟩
      rw [← hw8]
      have HR8 : Hid (w8.ownsRow 0 34 2 (.slice (some ⟨mb, 0, none⟩) n mc) n (MS.flatMap EV.cells)) := Lib.hid (by rw [hw8, HMS.out]; have h := row_setE HR7.out (by rw [List.length_set, HN.out]) k HIK.out.2.1 ei; rw [HEQ.out.2.2.1] at h; exact h)
      have HK8 : Hid (Keeps (fun i => i = mb) w6 w8) := Lib.hid (by rw [hw8]; exact (HK7.out.setCell (p := ⟨mb, k * 2, none⟩) (Or.inl rfl) _).setCell (p := ⟨mb, k * 2 + 1, none⟩) (Or.inl rfl) _)
      have hS8 : ∀ i, i = mb → TyAt w6 i 34 := fun i hi => ⟨_, _, hi ▸ hfi⟩
      have HS8 : Hid (St W tb w8) := Lib.hid ⟨tab_keep HS6.out.tab HK8.out (fun e => by
        obtain ⟨cs, f, h3⟩ := HS6.out.tab.ty
        exact (hS8 tb e).ne h3 (by decide) rfl), below_fp HS6.out.bel HK8.out (fun i hi => by rw [hi]; exact HMF.out mb rfl), HS6.out.own⟩
      have HCK := Lib.hid (fun (x : Nat) (h : CI tb w6 x []) => h.keepT HK8.out (fun i hi => ⟨_, hS8 i hi, by decide, by decide⟩))
      clear hw8 hS8
      go_wp2_with fail
      go_meet
      case rel => exact ⟨HS8.out, HCK.out p HA6.out, HCK.out q HC6.out, HCK.out r HD6.out, HR8.out⟩
  case rest =>
  obtain ⟨hs8, ha8, hc8, hd8, hr8⟩ := hcut
  have HS8 := Lib.hid hs8
  have HA8 := Lib.hid ha8
  have HC8 := Lib.hid hc8
  have HD8 := Lib.hid hd8
  have HR8 := Lib.hid hr8
  clear hs8 ha8 hc8 hd8 hr8 HS6 HA6 HC6 HD6 HR6 HME y0 y1 z0 z1 g0 g1 g2 g3 hfi i1 i2 HEQ HMS hki hkk
  have HIR : Hid ((i : Int) < (n : Int)) := Lib.hid (by have := HIK.out; omega)
  clear fi0
  go_wp2_with fail
  go_loopw [12] (fun s wr => ∃ j : Nat, j ≤ n ∧ s = .int .i64 (j : Int) ∧ St W tb wr ∧ CI tb wr p (ersL (es.take j)) ∧ CI tb wr q (ersL ((MS.take j).filter goodE)) ∧ CI tb wr r (ersL ((es.take j).eraseIdx i)) ∧ wr.ownsRow 0 34 2 (.slice (some ⟨mb, 0, none⟩) n mc) n (MS.flatMap EV.cells) ∧ ∀ x (hx : x < es.length), x < j → badF (es[x]).er = 0) (fun s _ => n - (intOf s).toNat)
  case atStart => exact ⟨0, by omega, rfl, HS8.out, HA8.out, HC8.out, by simpa [ersL] using HD8.out, HR8.out, fun x hx h => by omega⟩
  case round =>
    obtain ⟨j, hj, rfl, hs, ha, hc, hd, hr, hall⟩ := hrel
    have HS := Lib.hid hs
    have HA := Lib.hid ha
    have HCI := Lib.hid hc
    have HD := Lib.hid hd
    have HR := Lib.hid hr
    have HAL := Lib.hid hall
    clear hs ha hc hd hr hall
    by_cases hlt : j < n
    · have i1 : (j : Int) < (n : Int) := by omega
      have hjb : j < es.length := by rw [HN.out]; exact hlt
      have hjm : j < MS.length := by rw [HML.out]; exact hlt
      have HJN : Hid (j < n) := Lib.hid hlt
      have HCO := Lib.hid (fun (wx : World) (hb : Below W.heap.size W wx) (b off : Nat) (ha : ao = some ⟨b, off, none⟩) => entAt_off (HE.out.below hb) b off ha j hjb)
      have HMO := Lib.hid (fun (wx : World) (hs : St W tb wx) (hr : wx.ownsRow 0 34 2 (.slice (some ⟨mb, 0, none⟩) n mc) n (MS.flatMap EV.cells)) => (own_entAt hr (fun e he => (HE.out.below hs.bel).2 e (HMI.out e he)) HML.out).off j hjm)
      simp only [Nat.zero_add] at HMO
      have HXW := Lib.hid (HE.out.2 es[j] (List.getElem_mem hjb))
      have HMW := Lib.hid (HE.out.2 MS[j] (HMI.out _ (List.getElem_mem hjm)))
      have HSU := Lib.hid (ersL_succ es j hjb)
      rw [← ersL_take, ← ersL_take] at HSU
      have HGE := Lib.hid (good_ersL MS j hjm)
      have HER := Lib.hid (erase_take es i j hjb)
      have HAK : Hid (badF es[j].er = 0 → ∀ x (hx : x < es.length), x < j + 1 → badF (es[x]).er = 0) := Lib.hid (fun h x hx hxj => by
        by_cases e : x = j
        · subst e; exact h
        · exact HAL.out x hx (by omega))
      obtain ⟨m1, hm1⟩ : ∃ m1, m1 = es[j].b.length := ⟨_, rfl⟩
      obtain ⟨m2, hm2⟩ : ∃ m2, m2 = MS[j].b.length := ⟨_, rfl⟩
      rw [← hm1] at HCO
      rw [← hm2] at HMO
      have HMM : Hid (es[j].er.b.length = m1 ∧ MS[j].er.b.length = m2) := Lib.hid ⟨hm1.symm, hm2.symm⟩
      obtain ⟨b, off, hao⟩ : ∃ b off, ao = some ⟨b, off, none⟩ := HE.out.some (fun e => by rw [e] at hjb; simp at hjb)
      subst hao
      clear hm1 hm2 hlt hj
      generalize es[j] = x1 at *
      generalize MS[j] = x2 at *
      obtain ⟨c0, c1⟩ := HCO.out wr HS.out.bel b off rfl
      have HBD := Lib.hid (bad_any x1.er x1.ao m1 x1.c wr HMM.out.1)
      unfold EV.er at HBD
      dsimp only at HBD
      go_wp2_with fail
      with_reducible refine HBD.out.mono ?_
      rintro e w9 ⟨rfl, hb9⟩
      have HS9 := Lib.hid (HS.out.below hb9)
      have HA9 := Lib.hid (HA.out.below hb9)
      have HC9 := Lib.hid (HCI.out.below hb9)
      have HD9 := Lib.hid (HD.out.below hb9)
      have HR9 := Lib.hid (ownsRow_same HR.out (fun g hg => hb9.block g (HR.out.lt g hg).2))
      clear hb9 HBD HS HA HCI HD HR c0 c1
      by_cases hbad : badF { k := x1.k, b := x1.b } = 0
      case neg =>
        have hb : (badF { k := x1.k, b := x1.b } == 0) = false := by simp [hbad]
        have hb' : (badF { k := x1.k, b := x1.b } != 0) = true := by simp [hbad]
        clear hbad
        go_wp2_with fail
        refine (first22_any w9).mono ?_
        rintro e w10 ⟨rfl, hb10⟩
        have HS10 := Lib.hid (HS9.out.below hb10)
        clear hb10
        go_wp2
        go_ret
        exact ⟨rfl, HS10.out.bel⟩
      have HB0 : Hid (badF x1.er = 0) := Lib.hid hbad
      rw [hbad]
      clear hbad
      have hb0 : ((0 : Int) != 0) = false := rfl
      have HLN : Hid ((ersL (es.take j)).length ≤ 50 ∧ (ersL ((MS.take j).filter goodE)).length ≤ 50 ∧ (ersL ((es.take j).eraseIdx i)).length ≤ 50) := Lib.hid (by
        have h1 := List.length_filter_le goodE (MS.take j)
        have h2 := List.length_eraseIdx_le (es.take j) i
        rw [List.length_take] at h1 h2
        have := HIK.out; have := HJN.out; have := HN.out; have := HML.out
        refine ⟨?_, ?_, ?_⟩
        · rw [ersL_len, List.length_take]; omega
        · rw [ersL_len]; omega
        · rw [ersL_len]; omega)
      obtain ⟨c0, c1⟩ := HCO.out w9 HS9.out.bel b off rfl
      have HAD := Lib.hid (chain_add tb p (ersL (es.take j)) x1.er x1.ao m1 x1.c w9 HS9.out.tab HA9.out HMM.out.1 (ints_below HXW.out.1 HS9.out.bel) HXW.out.2.1 (by have := HLN.out; omega))
      rw [HB0.out] at HAD
      unfold EV.er at HAD
      dsimp only at HAD
      go_wp2_with fail
      with_reducible refine HAD.out.mono ?_
      rintro e w10 ⟨rfl, ht10, ⟨qa, qc, hc10, _⟩, hk10⟩
      rw [if_pos trivial] at hc10
      have HS10 := Lib.hid (HS9.out.two HPW.out hk10 ht10)
      have HA10 : Hid (CI tb w10 p (ersL (es.take (j + 1)))) := Lib.hid (by rw [HSU.out]; exact ⟨qa, qc, hc10⟩)
      have HC10 := Lib.hid (HC9.out.other HA9.out (fun e => HQW.out.2 e.symm) HS9.out.tab hk10)
      have HD10 := Lib.hid (HD9.out.other HA9.out (fun e => HRW.out.2.1 e.symm) HS9.out.tab hk10)
      have HR10 := Lib.hid (hk10.row HR9.out (two_tyE HS9.out.tab HA9.out))
      clear ht10 hc10 hk10 HAD HS9 HA9 HC9 HD9 HR9 c0 c1
      obtain ⟨c0, c1⟩ := HMO.out w10 HS10.out HR10.out
      have HAD := Lib.hid (chain_add tb q (ersL ((MS.take j).filter goodE)) x2.er x2.ao m2 x2.c w10 HS10.out.tab HC10.out HMM.out.2 (ints_below HMW.out.1 HS10.out.bel) HMW.out.2.1 (by have := HLN.out; omega))
      unfold EV.er at HAD
      dsimp only at HAD
      go_wp2_with fail
      with_reducible refine HAD.out.mono ?_
      rintro e w11 ⟨rfl, ht11, ⟨qa, qc, hc11, _⟩, hk11⟩
      have HS11 := Lib.hid (HS10.out.two HQW.out.1 hk11 ht11)
      have HC11 : Hid (CI tb w11 q (ersL ((MS.take (j + 1)).filter goodE))) := Lib.hid (by rw [HGE.out]; exact ⟨qa, qc, hc11⟩)
      have HA11 := Lib.hid (HA10.out.other HC10.out HQW.out.2 HS10.out.tab hk11)
      have HD11 := Lib.hid (HD10.out.other HC10.out (fun e => HRW.out.2.2 e.symm) HS10.out.tab hk11)
      have HR11 := Lib.hid (hk11.row HR10.out (two_tyE HS10.out.tab HC10.out))
      clear ht11 hc11 hk11 HAD HS10 HA10 HC10 HD10 HR10 c0 c1 hb0
      have HML2 : Hid (n - (intOf (.int .i64 ((j + 1 : Nat) : Int))).toNat < n - (intOf (.int .i64 (j : Int))).toNat) := Lib.hid (by simp only [intOf]; have := HJN.out; omega)
      have HW1 : Hid (wrap64 ((j : Int) + 1) = ((j + 1 : Nat) : Int)) := Lib.hid (by have := HJN.out; have := HIK.out; unfold wrap64; omega)
      by_cases hji : j = i
      · have hb : ((j : Int) != (i : Int)) = false := by simp [hji]
        have HD12 : Hid (CI tb w11 r (ersL ((es.take (j + 1)).eraseIdx i))) := Lib.hid (by rw [HER.out, if_pos hji, List.append_nil]; exact HD11.out)
        clear hji
        go_wp2
        try rw [HW1.out]
        exact ⟨⟨j + 1, HJN.out, rfl, HS11.out, HA11.out, HC11.out, HD12.out, HR11.out, HAK.out HB0.out⟩, HML2.out⟩
      · have hb : ((j : Int) != (i : Int)) = true := by simp; omega
        have HEI : Hid (ersL ((es.take (j + 1)).eraseIdx i) = ersL ((es.take j).eraseIdx i) ++ [x1.er]) := Lib.hid (by rw [HER.out, if_neg hji]; unfold ersL; rw [List.map_append]; rfl)
        clear hji
        obtain ⟨c0, c1⟩ := HCO.out w11 HS11.out.bel b off rfl
        have HAD := Lib.hid (chain_add tb r (ersL ((es.take j).eraseIdx i)) x1.er x1.ao m1 x1.c w11 HS11.out.tab HD11.out HMM.out.1 (ints_below HXW.out.1 HS11.out.bel) HXW.out.2.1 (by have := HLN.out; omega))
        rw [HB0.out] at HAD
        unfold EV.er at HAD
        dsimp only at HAD
        go_wp2_with fail
        with_reducible refine HAD.out.mono ?_
        rintro e w12 ⟨rfl, ht12, ⟨qa, qc, hc12, _⟩, hk12⟩
        rw [if_pos trivial] at hc12
        have HS12 := Lib.hid (HS11.out.two HRW.out.1 hk12 ht12)
        have HD12 : Hid (CI tb w12 r (ersL ((es.take (j + 1)).eraseIdx i))) := Lib.hid (by rw [HEI.out]; exact ⟨qa, qc, hc12⟩)
        have HA12 := Lib.hid (HA11.out.other HD11.out HRW.out.2.1 HS11.out.tab hk12)
        have HC12 := Lib.hid (HC11.out.other HD11.out HRW.out.2.2 HS11.out.tab hk12)
        have HR12 := Lib.hid (hk12.row HR11.out (two_tyE HS11.out.tab HD11.out))
        clear ht12 hc12 hk12 HAD c0 c1
        go_wp2
        try rw [HW1.out]
        exact ⟨⟨j + 1, HJN.out, rfl, HS12.out, HA12.out, HC12.out, HD12.out, HR12.out, HAK.out HB0.out⟩, HML2.out⟩
    · obtain rfl : j = n := by omega
      have i1 : ¬ (j : Int) < (j : Int) := by omega
      have HTK := Lib.hid (show es.take j = es from List.take_of_length_le (by rw [HN.out]; exact Nat.le_refl _))
      have HGD : Hid (∀ e ∈ es, badF e.er = 0) := Lib.hid (fun e he => by
        obtain ⟨x, hx, rfl⟩ := List.getElem_of_mem he
        exact HAL.out x hx (by rw [HN.out] at hx; exact hx))
      have HTM : Hid ((MS.take j).filter goodE = MS) := Lib.hid (by
        rw [List.take_of_length_le (by rw [HML.out]; exact Nat.le_refl _), List.filter_eq_self]
        intro e he
        unfold goodE
        rw [HGD.out e (HMI.out e he)]
        rfl)
      rw [HTK.out] at HA HD
      rw [HTM.out] at HCI
      clear hlt hj HAL
      rename World => wr
      have HNC : Hid (j ≤ c ∧ c ≤ maxLen ∧ j ≤ 50 ∧ i < j) := Lib.hid ⟨HC.out.1, HC.out.2, by have := HIK.out; omega, by have := HIK.out; omega⟩
      obtain ⟨b, off, hao⟩ : ∃ b off, ao = some ⟨b, off, none⟩ := HE.out.some (fun e => by have h := HN.out; rw [e] at h; have := HNC.out; simp at h; omega)
      subst hao
      have hsa : ∀ w, (Instr.slice 22 (.slice (some ⟨b, off, none⟩) j c) none (some (.int .i64 (i : Int))) none).run Try.prog w = .ok (.slice (some ⟨b, off, none⟩) i c) w := fun w => slice_eh (some ⟨b, off, none⟩) j c i (by have := HNC.out; omega) w
      have hsb : ∀ w, (Instr.slice 22 (.slice (some ⟨b, off, none⟩) j c) (some (.int .i64 ((i : Int) + 1))) none none).run Try.prog w = .ok (.slice (slcE (some ⟨b, off, none⟩) (i + 1) c) (j - (i + 1)) (c - (i + 1))) w := fun w => slice_el (some ⟨b, off, none⟩) j c (i + 1) (by have := HNC.out; omega) w
      have hw2 : IntKind.i64.wrap ((i : Int) + 1) = (i : Int) + 1 := (wrapEq _).trans (by have := HNC.out; unfold wrap64; omega)
      have HEA := Lib.hid (fun (wx : World) (hs : St W tb wx) => (HE.out.below hs.bel).takeE i)
      have HEB := Lib.hid (fun (wx : World) (hs : St W tb wx) => (HE.out.below hs.bel).dropE HN.out HNC.out.1 (i + 1) (by have := HNC.out; omega))
      have HSN : Hid (slcE (some ⟨b, off, none⟩) (i + 1) c ≠ none) := Lib.hid (by unfold slcE; split <;> simp)
      have HLA : Hid ((es.take i).length = i ∧ (es.drop (i + 1)).length = j - (i + 1)) := Lib.hid ⟨by rw [List.length_take, HN.out]; have := HNC.out; omega, by rw [List.length_drop, HN.out]⟩
      have HRS : Hid (es.eraseIdx i = es.take i ++ es.drop (i + 1)) := Lib.hid (List.eraseIdx_eq_take_drop_succ es i)
      generalize slcE (some ⟨b, off, none⟩) (i + 1) c = sb at *
      obtain ⟨dn, hdn⟩ : ∃ dn, dn = j - (i + 1) := ⟨_, rfl⟩
      rw [← hdn] at hsb HLA
      generalize c - (i + 1) = sc at *
      have HDN : Hid (i + dn = j - 1 ∧ i + dn ≤ 50) := Lib.hid (by have := HNC.out; omega)
      clear hdn
      have HM0 : Hid ((wr.drew.alloc (.cells #[] 34)).ownsRow 0 34 2 (.slice (some ⟨wr.heap.size, 0, none⟩) 0 0) 0 []) := Lib.hid ⟨rfl, Or.inr ⟨wr.heap.size, 0, #[], rfl, Nat.zero_le _, heap_alloc_new wr.drew _, Nat.zero_le _, Nat.zero_le _, rfl, rfl⟩⟩
      go_upto_region 20 with fail
      refine wp_region_held_drew (S := fun _ => True) (by kernel_rfl) ?_ (fun hHeld => ?_)
      · trivial
      refine take_at (i := 1) (d := 114) (v := ?_) rfl rfl (by kernel_rfl) (by kernel_rfl) (by kernel_rfl) (fun _ _ _ h => h) (Or.inl ⟨by rfl, by intro w' hSw; (try dsimp only at hSw); go_simp; try with_reducible rfl⟩) (by assumption) ?_
      simp only [List.setIfInBounds_toArray, List.set_cons_zero, List.set_cons_succ]
      refine take_at (i := 2) (d := 115) (v := ?_) rfl rfl (by kernel_rfl) (by kernel_rfl) (by kernel_rfl) (fun _ _ _ h => h) (Or.inl ⟨by rfl, by intro w' hSw; (try dsimp only at hSw); go_simp; try with_reducible rfl⟩) (by assumption) ?_
      simp only [List.setIfInBounds_toArray, List.set_cons_zero, List.set_cons_succ]
      refine take_at (i := 3) (d := 116) (v := ?_) rfl rfl (by kernel_rfl) (by kernel_rfl) (by kernel_rfl) (fun _ _ _ h => h) (Or.inl ⟨by rfl, by intro w' hSw; (try dsimp only at hSw); go_simp; try with_reducible rfl⟩) (by assumption) ?_
      simp only [List.setIfInBounds_toArray, List.set_cons_zero, List.set_cons_succ]
      refine take_at (i := 5) (d := 118) (v := ?_) rfl rfl (by kernel_rfl) (by kernel_rfl) (by kernel_rfl) (fun _ _ _ h => h) (Or.inl ⟨by rfl, by intro w' hSw; (try dsimp only at hSw); go_simp; try with_reducible rfl⟩) (by assumption) ?_
      simp only [List.setIfInBounds_toArray, List.set_cons_zero, List.set_cons_succ]
      refine take_at (i := 6) (d := 119) (v := ?_) rfl rfl (by kernel_rfl) (by kernel_rfl) (by kernel_rfl) (fun _ _ _ h => h) (Or.inl ⟨by rfl, by intro w' hSw; (try dsimp only at hSw); go_simp; try with_reducible rfl⟩) (by assumption) ?_
      simp only [List.setIfInBounds_toArray, List.set_cons_zero, List.set_cons_succ]
      refine take_at (i := 7) (d := 120) (v := ?_) rfl rfl (by kernel_rfl) (by kernel_rfl) (by kernel_rfl) (fun _ _ _ h => h) (Or.inl ⟨by rfl, by intro w' hSw; (try dsimp only at hSw); go_simp; try with_reducible rfl⟩) (by assumption) ?_
      simp only [List.setIfInBounds_toArray, List.set_cons_zero, List.set_cons_succ]
      refine take_at (i := 8) (d := 121) (v := ?_) rfl rfl (by kernel_rfl) (by kernel_rfl) (by kernel_rfl) (fun _ _ _ h => h) (Or.inl ⟨by rfl, by intro w' hSw; (try dsimp only at hSw); go_simp; try with_reducible rfl⟩) (by assumption) ?_
      simp only [List.setIfInBounds_toArray, List.set_cons_zero, List.set_cons_succ]
      refine wpAnyH_ready (rs := [0]) (by kernel_rfl) (by simp) ?_
      refine AllReadyH.cons rfl (fun K hK => ?_) AllReadyH.nil
      go_simp
      obtain ⟨w9, hw9⟩ : ∃ w9, w9 = (wr.alloc (.cells #[] 34)).drew := ⟨_, rfl⟩
      have HB9 : Hid (Below wr.heap.size wr w9) := Lib.hid (by rw [hw9]; exact ((Below.refl _ _).alloc (Nat.le_refl _) _).drew)
      have HR9 : Hid (w9.ownsRow 0 34 2 (.slice (some ⟨wr.heap.size, 0, none⟩) 0 0) 0 []) := Lib.hid (by rw [hw9]; exact HM0.out)
      rw [← hw9]
      clear hw9
      go_wp2_with fail
      refine hK.out _ _ ?_ (fun hHeld => ?_)
      · trivial
      clear hK K
      try simp only [Act.put, List.getElem_toArray, List.getElem_cons_succ, List.getElem_cons_zero]
      try simp only [List.setIfInBounds_toArray, List.set_cons_zero, List.set_cons_succ]
      refine wpAnyH_ready (rs := [4]) (by kernel_rfl) (by simp) ?_
      refine AllReadyH.cons rfl (fun K hK => ?_) AllReadyH.nil
      have HS9 := Lib.hid (HS.out.below HB9.out)
      refine step_append_any (by rfl) _ _ 22 (by rfl) 34 i0 _ 2 32 Try.underlying22 hi0 hz0 hz1 hz2 rfl (by decide) (.slice (some ⟨wr.heap.size, 0, none⟩) 0 0) 0 [] (by rfl) HR9.out (some ⟨b, off, none⟩) i c ((es.take i).flatMap EV.cells) (by rfl) (by rw [ents_len, HLA.out.1]) (fun e => by cases e) (src_ents (HEA.out w9 HS9.out)) (ents_one _) (by have := HNC.out; unfold maxLen; omega) (by have := HNC.out; omega) ?_
      intro aoa capa wa hown hgrow hat hnn
      rw [List.nil_append, Nat.zero_add] at hown
      simp only [Nat.zero_add] at hat ⊢
      have HBa : Hid (Below wr.heap.size wr wa) := Lib.hid (below_fp HB9.out ((Keeps.refl (fun i => (Value.slice (some (⟨wr.heap.size, 0, none⟩ : Addr)) 0 0).ownBlock = some i) w9).grown hgrow (fun i hi => Or.inl hi)) (fun i hi => by simp only [Value.ownBlock, Option.some.injEq] at hi; omega))
      have HRa := Lib.hid hown
      have HFa : Hid (∀ g, (Value.slice aoa i capa).ownBlock = some g → wr.heap.size ≤ g) := Lib.hid (fun g hg => by
        rcases hat g hg with h | h
        · simp only [Value.ownBlock, Option.some.injEq] at h; omega
        · have := HB9.out.size; omega)
      clear hown hgrow hat hnn
      go_wp2_with fail
      refine hK.out _ _ ?_ (fun hHeld => ?_)
      · trivial
      clear hK K
      try simp only [Act.put, List.getElem_toArray, List.getElem_cons_succ, List.getElem_cons_zero]
      try simp only [List.setIfInBounds_toArray, List.set_cons_zero, List.set_cons_succ]
      refine wpAnyH_ready (rs := [9]) (by kernel_rfl) (by simp) ?_
      refine AllReadyH.cons rfl (fun K hK => ?_) AllReadyH.nil
      have HSa := Lib.hid (HS.out.below HBa.out)
      refine step_append_any (by rfl) _ _ 22 (by rfl) 34 i0 _ 2 32 Try.underlying22 hi0 hz0 hz1 hz2 rfl (by decide) (.slice aoa i capa) i _ (by rfl) HRa.out sb dn sc ((es.drop (i + 1)).flatMap EV.cells) (by rfl) (by rw [ents_len, HLA.out.2]) (fun e => absurd e HSN.out) (src_ents (HEB.out wa HSa.out)) (ents_one _) (by have := HDN.out; unfold maxLen; omega) (by have := HDN.out; omega) ?_
      intro aob capb wb hown hgrow hat hnn
      rw [← List.flatMap_append, ← HRS.out] at hown
      have HBb : Hid (Below wr.heap.size wr wb) := Lib.hid (below_fp HBa.out ((Keeps.refl (fun k => (Value.slice aoa i capa).ownBlock = some k) wa).grown hgrow (fun k hk => Or.inl hk)) (fun k hk => HFa.out k hk))
      have HRb := Lib.hid hown
      clear hown hgrow hat hnn
      go_wp2_with fail
      refine hK.out _ _ ?_ (fun hHeld => ?_)
      · trivial
      clear hK K
      try simp only [Act.put, List.getElem_toArray, List.getElem_cons_succ, List.getElem_cons_zero]
      try simp only [List.setIfInBounds_toArray, List.set_cons_zero, List.set_cons_succ]
      refine take_at (i := 10) (d := 13) (v := ?_) rfl rfl (by kernel_rfl) (by kernel_rfl) (by kernel_rfl) (fun _ _ _ h => h) (Or.inl ⟨by rfl, by intro w' hSw; (try dsimp only at hSw); go_simp; try with_reducible rfl⟩) (by assumption) ?_
      simp only [List.setIfInBounds_toArray, List.set_cons_zero, List.set_cons_succ]
      refine wpAnyH_done (by kernel_rfl) ?_ _
      have HOE : Hid (OE W wb tb p q r (ersL es) (ersL MS) (ersL (es.eraseIdx i)) (some ⟨mb, 0, none⟩) aob MS (es.eraseIdx i) j mc (i + dn) capb) := Lib.hid ⟨HS.out.below HBb.out, HA.out.below HBb.out, HCI.out.below HBb.out, HD.out.below HBb.out, ownsRow_same HR.out (fun g hg => HBb.out.block g (HR.out.lt g hg).2), HRb.out⟩
      clear hHeld hsa hsb hw2 HS HA HCI HD HR HRb HBb HBa HRa HFa HR9 HB9 HM0
      have HLE : Hid ((es.eraseIdx i).length = i + dn) := Lib.hid (by rw [HRS.out, List.length_append, HLA.out.1, HLA.out.2])
      obtain ⟨_, _, hrv, hr1, hr2⟩ := own_shape HOE.out.rr
      simp only [Value.slice.injEq] at hrv
      obtain ⟨rfl, _, rfl⟩ := hrv
      have HRC := Lib.hid (And.intro hr1 hr2)
      clear hr1 hr2
      have HK0 : Hid (∀ e ∈ es, e.er.ok) := Lib.hid (fun e he => (badF_ok _).1 (HGD.out e he))
      have HRL := Lib.hid (fun (wx : World) (hs : St W tb wx) => rheadC_any (some ⟨b, off, none⟩) es j c wx HN.out (HE.out.below hs.bel) HK0.out HNC.out.1 HNC.out.2.1 (by have := HNC.out; omega))
      have HRM := Lib.hid (fun (wx : World) (hs : St W tb wx) (hr : wx.ownsRow 0 34 2 (.slice (some ⟨mb, 0, none⟩) j mc) j (MS.flatMap EV.cells)) => rheadC_any (some ⟨mb, 0, none⟩) MS j mc wx HML.out (own_entAt hr (fun e he => (HE.out.below hs.bel).2 e (HMI.out e he)) HML.out) (fun e he => HK0.out e (HMI.out e he)) HMC.out.1 HMC.out.2 (by have := HNC.out; omega))
      have HRR := Lib.hid (fun (wx : World) (hs : St W tb wx) (hr : wx.ownsRow 0 34 2 (.slice aob (i + dn) capb) (i + dn) ((es.eraseIdx i).flatMap EV.cells)) => rheadC_any aob (es.eraseIdx i) (i + dn) capb wx HLE.out (own_entAt hr (fun e he => (HE.out.below hs.bel).2 e (List.mem_of_mem_eraseIdx he)) HLE.out) (fun e he => HK0.out e (List.mem_of_mem_eraseIdx he)) HRC.out.1 HRC.out.2 (by have := HDN.out; omega))
      have HSM := Lib.hid (fun (wx : World) (hs : St W tb wx) (hr : wx.ownsRow 0 34 2 (.slice (some ⟨mb, 0, none⟩) j mc) j (MS.flatMap EV.cells)) => chain_same (some ⟨b, off, none⟩) (some ⟨mb, 0, none⟩) es MS j j c mc wx HN.out HML.out (HE.out.below hs.bel) (own_entAt hr (fun e he => (HE.out.below hs.bel).2 e (HMI.out e he)) HML.out) HNC.out.1 HNC.out.2.1 HMC.out.1 HMC.out.2 (by have := HNC.out; omega))
      have HSQ := Lib.hid (@sameC_eq2 (ersL es) (ersL MS))
      have HL1 := Lib.hid (headC_len (ersL es))
      have HL2 := Lib.hid (headC_len (ersL MS))
      have HL3 := Lib.hid (headC_len (ersL (es.eraseIdx i)))
      have HI1 := Lib.hid (headC_inB (ersL es))
      have HI2 := Lib.hid (headC_inB (ersL MS))
      have HI3 := Lib.hid (headC_inB (ersL (es.eraseIdx i)))
      go_wp2_with fail
      refine (first22_any wb).mono ?_
      rintro e wx ⟨rfl, hb⟩
      have HO := Lib.hid (HOE.out.below hb)
      clear hb HOE
      go_wp2_with fail
      refine (chain_head tb p _ wx HO.out.a).mono ?_
      rintro e wx ⟨a1, k1, rfl, hr⟩
      rw [headC_len] at hr ⊢
      have HO := Lib.hid (HO.out.below hr.2.1)
      have J1 := Lib.hid (row32 hr)
      clear hr
      go_wp2_with fail
      refine (chain_head tb q _ wx HO.out.b).mono ?_
      rintro e wx ⟨a2, k2, rfl, hr⟩
      rw [headC_len] at hr ⊢
      have HO := Lib.hid (HO.out.below hr.2.1)
      have J1 := Lib.hid (ints_below J1.out hr.2.1)
      have J2 := Lib.hid (row32 hr)
      clear hr
      have HBY := Lib.hid (bytes_eq a1 a2 (headC (ersL es)) (headC (ersL MS)) 32 32 k1 k2 wx HL1.out HL2.out J1.out J2.out HI1.out HI2.out)
      generalize hV1 : eqB (headC (ersL es)) (headC (ersL MS)) = V1 at *
      have HV1 := Lib.hid hV1
      clear hV1
      go_wp2_with fail
      refine HBY.out.mono ?_
      rintro e wz ⟨rfl, rfl⟩
      rename World => wx
      clear HBY
      go_wp2_with fail
      refine (HRL.out wx HO.out.st).mono ?_
      rintro e wx ⟨a3, k3, rfl, hr⟩
      rw [headC_len] at hr ⊢
      have HO := Lib.hid (HO.out.below hr.2.1)
      have J3 := Lib.hid (row32 hr)
      clear hr
      go_wp2_with fail
      refine (HRM.out wx HO.out.st HO.out.m).mono ?_
      rintro e wx ⟨a4, k4, rfl, hr⟩
      rw [headC_len] at hr ⊢
      have HO := Lib.hid (HO.out.below hr.2.1)
      have J3 := Lib.hid (ints_below J3.out hr.2.1)
      have J4 := Lib.hid (row32 hr)
      clear hr
      have HBY := Lib.hid (bytes_eq a3 a4 (headC (ersL es)) (headC (ersL MS)) 32 32 k3 k4 wx HL1.out HL2.out J3.out J4.out HI1.out HI2.out)
      rw [HV1.out] at HBY
      have hvv : (V1 == V1) = true := by simp
      go_wp2_with fail
      refine HBY.out.mono ?_
      rintro e wz ⟨rfl, rfl⟩
      rename World => wx
      clear HBY
      go_wp2_with fail
      refine (chain_head tb p _ wx HO.out.a).mono ?_
      rintro e wx ⟨a5, k5, rfl, hr⟩
      rw [headC_len] at hr ⊢
      have HO := Lib.hid (HO.out.below hr.2.1)
      have J5 := Lib.hid (row32 hr)
      clear hr
      go_wp2_with fail
      refine (chain_head tb r _ wx HO.out.c).mono ?_
      rintro e wx ⟨a6, k6, rfl, hr⟩
      rw [headC_len] at hr ⊢
      have HO := Lib.hid (HO.out.below hr.2.1)
      have J5 := Lib.hid (ints_below J5.out hr.2.1)
      have J6 := Lib.hid (row32 hr)
      clear hr
      have HBY := Lib.hid (bytes_eq a5 a6 (headC (ersL es)) (headC (ersL (es.eraseIdx i))) 32 32 k5 k6 wx HL1.out HL3.out J5.out J6.out HI1.out HI3.out)
      generalize hV2 : eqB (headC (ersL es)) (headC (ersL (es.eraseIdx i))) = V2 at *
      have HV2 := Lib.hid hV2
      clear hV2
      go_wp2_with fail
      refine HBY.out.mono ?_
      rintro e wz ⟨rfl, rfl⟩
      rename World => wx
      clear HBY
      go_wp2_with fail
      refine (HRL.out wx HO.out.st).mono ?_
      rintro e wx ⟨a7, k7, rfl, hr⟩
      rw [headC_len] at hr ⊢
      have HO := Lib.hid (HO.out.below hr.2.1)
      have J7 := Lib.hid (row32 hr)
      clear hr
      go_wp2_with fail
      refine (HRR.out wx HO.out.st HO.out.rr).mono ?_
      rintro e wx ⟨a8, k8, rfl, hr⟩
      rw [headC_len] at hr ⊢
      have HO := Lib.hid (HO.out.below hr.2.1)
      have J7 := Lib.hid (ints_below J7.out hr.2.1)
      have J8 := Lib.hid (row32 hr)
      clear hr
      have HBY := Lib.hid (bytes_eq a7 a8 (headC (ersL es)) (headC (ersL (es.eraseIdx i))) 32 32 k7 k8 wx HL1.out HL3.out J7.out J8.out HI1.out HI3.out)
      rw [HV2.out] at HBY
      have hvv2 : (V2 == V2) = true := by simp
      go_wp2_with fail
      refine HBY.out.mono ?_
      rintro e wz ⟨rfl, rfl⟩
      rename World => wx
      clear HBY
      have HQ := Lib.hid (HSM.out wx HO.out.st HO.out.m)
      generalize sameC (ersL es) (ersL MS) = V3 at *
      go_wp2_with fail
      refine HQ.out.mono ?_
      rintro e wx ⟨rfl, hb⟩
      have HO := Lib.hid (HO.out.below hb)
      clear hb HQ
      cases V3 with
      | false =>
        go_wp2
        go_ret
        exact ⟨rfl, HO.out.st.bel⟩
      | true =>
        have HT : Hid (V1 = true) := Lib.hid (by rw [← HV1.out, HSQ.out rfl, eqB_self])
        rw [HT.out] at HV1
        go_wp2_with fail
        refine (chain_head tb p _ wx HO.out.a).mono ?_
        rintro e wx ⟨a9, k9, rfl, hr⟩
        rw [headC_len] at hr ⊢
        have HO := Lib.hid (HO.out.below hr.2.1)
        have J9 := Lib.hid (row32 hr)
        clear hr
        go_wp2_with fail
        refine (chain_head tb q _ wx HO.out.b).mono ?_
        rintro e wx ⟨a10, k10, rfl, hr⟩
        rw [headC_len] at hr ⊢
        have HO := Lib.hid (HO.out.below hr.2.1)
        have J9 := Lib.hid (ints_below J9.out hr.2.1)
        have J10 := Lib.hid (row32 hr)
        clear hr
        have HBY := Lib.hid (bytes_eq a9 a10 (headC (ersL es)) (headC (ersL MS)) 32 32 k9 k10 wx HL1.out HL2.out J9.out J10.out HI1.out HI2.out)
        rw [HV1.out] at HBY
        go_wp2_with fail
        refine HBY.out.mono ?_
        rintro e wz ⟨rfl, rfl⟩
        rename World => wx
        clear HBY
        go_wp2
        go_ret
        exact ⟨rfl, HO.out.st.bel⟩

theorem walk_chainOrder (W : World) (ao : Option Addr) (es : List EV) (n c : Nat) (hn : es.length = n) (h : EntAt W ao es) (hcap : n ≤ c) (hcm : c ≤ maxLen) (I : Int) (_ : (Lit.int .i64 I).wf = true) (K : Int) (_ : (Lit.int .i64 K).wf = true) :
    Calls Try.prog 4 #[.slice ao n c, .int .i64 I, .int .i64 K] W fun e w' => e = .returned (.bool true) ∧ Below W.heap.size W w' :=
  walk_chainOrder' W ao es n c hn h hcap hcm I K

end Go.Proofs.Ytbhoakohpfdeoaa
