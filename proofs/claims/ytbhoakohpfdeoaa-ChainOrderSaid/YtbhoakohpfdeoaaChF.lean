/- Package chain: Import. Package chain: Import, the walk. The reference's Import. -/
import Derived.Test.YtbhoakohpfdeoaaChC
import Derived.Test.YtbhoakohpfdeoaaSlc
import Derived.Test.YtbhoakohpfdeoaaDec4
import Derived.Test.YtbhoakohpfdeoaaRefd2
namespace Go.Proofs.Ytbhoakohpfdeoaa
open Go.RowKit
set_option linter.unusedVariables false
set_option linter.unusedSimpArgs false

theorem parse_step (n : Nat) (zs : List Int) (h5 : ¬ zs.length < 5) (hk : ¬ (60000 < hdF zs 1 4 ∨ (zs.length : Int) - 5 < hdF zs 1 4)) :
    parseC (n + 1) zs = (parseC n (zs.drop (5 + (hdF zs 1 4).toNat))).map (fun r => (⟨hdF zs 0 1, (zs.drop 5).take (hdF zs 1 4).toNat⟩ :: r.1, r.2)) := by
  rw [parseC, if_neg h5, if_neg hk]
  cases parseC n (zs.drop (5 + (hdF zs 1 4).toNat)) <;> rfl
theorem parse_short (n : Nat) (zs : List Int) (h5 : zs.length < 5) : parseC (n + 1) zs = none := by rw [parseC, if_pos h5]
theorem parse_wide (n : Nat) (zs : List Int) (h5 : ¬ zs.length < 5) (hk : 60000 < hdF zs 1 4 ∨ (zs.length : Int) - 5 < hdF zs 1 4) : parseC (n + 1) zs = none := by rw [parseC, if_neg h5, if_pos hk]
theorem import_none {zs : List Int} (h : ¬ zs.length < 34) (hp : parseC (hdF zs 32 2).toNat (zs.drop 34) = none) : importF zs = ([], 2) := by
  unfold importF; rw [if_neg h, hp]
theorem import_some {zs : List Int} {l : List ER} {R : List Int} (h : ¬ zs.length < 34) (hp : parseC (hdF zs 32 2).toNat (zs.drop 34) = some (l, R)) :
    importF zs = if R = [] then (if headC l = zs.take 32 then (l, 0) else ([], 17)) else ([], 2) := by
  unfold importF; rw [if_neg h, hp]

/-! Blocks of different types are different blocks. -/
theorem row_ty {w : World} {T : TypeId} {sz : Nat} {v : Value} {n : Nat} {xs : List Value} (h : w.ownsRow 0 T sz v n xs) {g : Nat} (hg : v.ownBlock = some g) : ∃ cur, w.heap[g]? = some (.cells cur T (0, 0)) := by
  rcases h.2 with ⟨hv, _⟩ | ⟨g', cap', cur, hv, hb, hh, _⟩
  · rw [hv] at hg; cases hg
  · rw [hv] at hg; cases hg; exact ⟨cur, hh⟩
/-- A block of some type. -/
def TyAt (w : World) (i : Nat) (T : TypeId) : Prop := ∃ cs f, w.heap[i]? = some (.cells cs T f)
theorem TyAt.ne {w : World} {g i : Nat} {cs : Array Value} {T T' : TypeId} {f : Nat × Nat} (h : TyAt w i T') (h1 : w.heap[g]? = some (.cells cs T f)) (hne : T ≠ T') : g ≠ i := by
  intro e
  obtain ⟨cs', f', h2⟩ := h
  rw [e, h2] at h1
  exact hne (cells_type h1).symm
theorem Keeps.ty {S : Nat → Prop} {w w' : World} {g : Nat} {cs : Array Value} {T : TypeId} {f : Nat × Nat} (hk : Keeps S w w') (h1 : w.heap[g]? = some (.cells cs T f)) (hS : ∀ i, S i → ∃ T', TyAt w i T' ∧ T ≠ T') : w'.heap[g]? = w.heap[g]? :=
  hk.block g (blk_lt h1) (fun hs => by
    obtain ⟨T', h2, h3⟩ := hS g hs
    exact h2.ne h1 h3 rfl)
theorem Keeps.row {S : Nat → Prop} {w w' : World} {T : TypeId} {sz : Nat} {v : Value} {n : Nat} {xs : List Value} (hk : Keeps S w w') (h : w.ownsRow 0 T sz v n xs) (hS : ∀ i, S i → ∃ T', TyAt w i T' ∧ T ≠ T') : w'.ownsRow 0 T sz v n xs :=
  ownsRow_same h (fun g hg => by
    obtain ⟨cur, h1⟩ := row_ty h hg
    exact hk.ty h1 hS)
theorem TabOk.ty {w : World} {tb : Nat} (h : TabOk w tb) : TyAt w tb 93 := by
  rcases h with ⟨_, _, cs, h, _⟩ | ⟨cs, h, _⟩ <;> exact ⟨_, _, h⟩
theorem CI.ty {tb : Nat} {w : World} {p : Nat} {l : List ER} (h : CI tb w p l) : TyAt w p 95 := by
  obtain ⟨_, _, h, _⟩ := h; exact ⟨_, _, h⟩
theorem CI.keepT {S : Nat → Prop} {tb : Nat} {w w' : World} {p : Nat} {l : List ER} (h : CI tb w p l) (hk : Keeps S w w') (hS : ∀ i, S i → ∃ T', TyAt w i T' ∧ 5 ≠ T' ∧ 95 ≠ T') : CI tb w' p l := by
  obtain ⟨ao, c, h1, h2⟩ := h
  exact ⟨ao, c, (hk.ty h1 (fun i hi => (hS i hi).imp fun T h => ⟨h.1, h.2.2⟩)).trans h1, hk.row h2 (fun i hi => (hS i hi).imp fun T h => ⟨h.1, h.2.1⟩)⟩

/-- An entry's cells. -/
def EV.cells (e : EV) : List Value := [.int .i64 e.k, .slice e.ao e.b.length e.c]
/-- Entries of one's own. -/
structure MI (w wr : World) (tb p : Nat) (es : List EV) (v : Value) : Prop where
  tab : TabOk wr tb
  ch : CI tb wr p (ersL es)
  row : wr.ownsRow 0 34 2 v es.length (es.flatMap EV.cells)
  ents : ∀ e ∈ es, wr.ownsRow 0 5 1 (.slice e.ao e.b.length e.c) e.b.length (e.b.map (Value.int .u8)) ∧ InB e.b
  keep : Keeps (fun i => i = tb) w wr
  own : w.heap.size ≤ p
  fr : ∀ g, v.ownBlock = some g → w.heap.size ≤ g
section
variable {w wr w' : World} {tb p : Nat} {es : List EV} {v : Value}
theorem MI.below (h : MI w wr tb p es v) (hb : Below wr.heap.size wr w') : MI w w' tb p es v :=
  ⟨h.tab.below hb, h.ch.below hb, ownsRow_same h.row (fun g hg => hb.block g (h.row.lt g hg).2), fun e he => ⟨ownsRow_same (h.ents e he).1 (fun g hg => hb.block g ((h.ents e he).1.lt g hg).2), (h.ents e he).2⟩, h.keep.step hb, h.own, h.fr⟩
theorem own_cell {w : World} {e : TypeId} {sz n cap : Nat} {ao : Option Addr} {xs : List Value} (h : w.ownsRow 0 e sz (.slice ao n cap) n xs) (hn : 0 < n) : ∃ b, ao = some ⟨b, 0, none⟩ ∧ (∀ j u, xs[j]? = some u → w.cell? ⟨b, j, none⟩ = some u) := by
  rcases h.2 with ⟨hv, h0⟩ | ⟨b, cap', cur, hv, _, hh, hnc, hcm, hcs, ht⟩
  · omega
  · simp only [Value.slice.injEq] at hv
    obtain ⟨rfl, _, _⟩ := hv
    refine ⟨b, rfl, fun j u hj => ?_⟩
    rw [blk_cell hh]
    rw [← ht] at hj
    rw [List.getElem?_take] at hj
    split at hj
    · simpa using hj
    · cases hj
theorem flat_get {α : Type} (f : α → List Value) (sz : Nat) (hf : ∀ x, (f x).length = sz) : ∀ (l : List α) (i : Nat) (hi : i < l.length) (j : Nat) (hj : j < sz), (l.flatMap f)[i * sz + j]? = (f l[i])[j]?
  | [], i, hi, _, _ => by simp at hi
  | x :: l, 0, _, j, hj => by
    rw [List.flatMap_cons, Nat.zero_mul, Nat.zero_add, List.getElem?_append_left (by rw [hf]; exact hj)]
    rfl
  | x :: l, i + 1, hi, j, hj => by
    have ih := flat_get f sz hf l i (by simpa using hi) j hj
    rw [List.flatMap_cons, List.getElem?_append_right (by rw [hf, Nat.add_mul]; omega), hf]
    rw [show (i + 1) * sz + j - sz = i * sz + j by rw [Nat.add_mul]; omega, ih]
    rfl
/-- What they are: entries that lie in a row. -/
theorem MI.entAt {ao : Option Addr} {n c : Nat} (h : MI w wr tb p es (.slice ao n c)) (hn : es.length = n) : EntAt wr ao es := by
  refine ⟨?_, fun e he => ⟨(owns_at (h.ents e he).1).2.1, (h.ents e he).2, (owns_at (h.ents e he).1).2.2.1, (owns_at (h.ents e he).1).2.2.2⟩⟩
  by_cases h0 : n = 0
  · exact Or.inl (List.eq_nil_of_length_eq_zero (by omega))
  · have hr := h.row
    rw [hn] at hr
    obtain ⟨b, rfl, hc⟩ := own_cell hr (by omega)
    refine Or.inr ⟨b, 0, rfl, fun i hi => ⟨?_, ?_⟩⟩
    · rw [Nat.zero_add]
      exact hc (i * 2 + 0) _ (by rw [flat_get EV.cells 2 (fun _ => rfl) es i hi 0 (by omega)]; rfl)
    · rw [Nat.zero_add]
      exact hc (i * 2 + 1) _ (by rw [flat_get EV.cells 2 (fun _ => rfl) es i hi 1 (by omega)]; rfl)
theorem own_shape {w : World} {e : TypeId} {sz n : Nat} {v : Value} {xs : List Value} (h : w.ownsRow 0 e sz v n xs) : ∃ ao c, v = .slice ao n c ∧ n ≤ c ∧ c ≤ maxLen := by
  rcases h.2 with ⟨hv, h0⟩ | ⟨b, cap', cur, hv, hb, hh, hnc, hcm, hcs, ht⟩
  · exact ⟨none, 0, by rw [hv, h0], by omega, by unfold maxLen; omega⟩
  · exact ⟨_, cap', hv, by assumption, by assumption⟩
end
theorem Try_infoE : (Try.prog.info? 34).map (fun i => (i.zero, i.size, i.bytes)) = some (some (.agg #[.int .i64 0, .slice none 0 0]), 2, 32) := by kernel_rfl

/-- What Import hands back. -/
def ImpPost (w : World) (tb : Nat) (r : List ER × Int) (e : Ending) (w' : World) : Prop := ∃ ao c es, e = .returned (.tuple #[.slice ao r.1.length c, .int .i64 r.2]) ∧ TabOk w' tb ∧ Keeps (fun i => i = tb) w w' ∧ ersL es = r.1 ∧ EntAt w' ao es ∧ r.1.length ≤ c ∧ c ≤ maxLen
theorem imp_none {w wr : World} {tb : Nat} {k : Int} {r : List ER × Int} (ht : TabOk wr tb) (hk : Keeps (fun i => i = tb) w wr) (hr : r = ([], k)) : ImpPost w tb r (.returned (.tuple #[.slice none 0 0, .int .i64 k])) wr :=
  ⟨none, 0, [], by rw [hr]; rfl, ht, hk, by rw [hr]; rfl, ⟨Or.inl rfl, fun e he => by cases he⟩, by rw [hr]; exact Nat.le_refl _, by unfold maxLen; omega⟩
set_option maxRecDepth 100000 in
set_option maxHeartbeats 4000000 in
theorem import_any (tb : Nat) (bo : Option Addr) (zs : List Int) (m d : Nat) (w : World) (ht : TabOk w tb) (hm : zs.length = m) (hz : IntsAt .u8 w bo zs) (hB : InB zs) (hf : zs = [] ∨ ∀ a, bo = some a → a.block ≠ tb) (hc : m ≤ d) (hcm : d ≤ maxLen) (hl : m ≤ 1000000) :
    Calls Try.prog 35 #[.pointer (some ⟨tb, 0, none⟩), .slice bo m d] w fun e w' => ImpPost w tb (importF zs) e w' := by
  have HT := Lib.hid ht
  have HM := Lib.hid hm
  have HZ : Hid (∀ wx : World, Keeps (fun i => i = tb) w wx → IntsAt .u8 wx bo zs) := Lib.hid (fun wx hk => by
    rcases hf with h | h
    · exact Or.inl h
    · exact hz.same (fun a ha hl => hk.block a.block hl (h a ha)))
  have HB := Lib.hid hB
  have HC := Lib.hid (And.intro hc (And.intro hcm hl))
  clear hm hz hB hf hc hcm hl
  by_cases h34 : (m : Int) < 34
  · have HR : Hid (importF zs = ([], 2)) := Lib.hid (by unfold importF; rw [if_pos (by have := HM.out; omega)])
    go_enter Try.func35, Try.ntmps35
    go_wp2
    go_ret2
    exact imp_none HT.out (Keeps.refl _ _) HR.out
  have H34 : Hid (34 ≤ m ∧ ¬ zs.length < 34) := Lib.hid (by have := HM.out; omega)
  have HNW := Lib.hid (chain_new tb w ht)
  have hs1 : ∀ w, (Instr.slice 29 (.slice bo m d) (some (.int .i64 34)) none none).run Try.prog w = .ok (.slice (slcA bo 34 d) (m - 34) (d - 34)) w := fun w => slice_l bo m d 34 H34.out.1 w
  have HS1 := Lib.hid (slc_drop bo zs m d 34 HM.out H34.out.1 HC.out.1)
  have hs2 : ∀ w, (Instr.slice 29 (.slice bo m d) (some (.int .i64 32)) (some (.int .i64 34)) none).run Try.prog w = .ok (.slice (slcA bo 32 d) 2 (d - 32)) w := fun w => slice_lh bo m d 32 34 (by omega) (by have := H34.out.1; have := HC.out.1; omega) w
  have HS2 := Lib.hid (slc_of bo zs m d 32 34 HM.out (by omega) H34.out.1 HC.out.1)
  have hs3 : ∀ w, (Instr.slice 29 (.slice bo m d) none (some (.int .i64 32)) none).run Try.prog w = .ok (.slice bo 32 d) w := fun w => slice_h bo m d 32 (by have := H34.out.1; have := HC.out.1; omega) w
  generalize slcA bo 34 d = ra at *
  generalize slcA bo 32 d = na at *
  generalize hq : m - 34 = q at *
  generalize d - 34 = qc at *
  generalize d - 32 = nc at *
  have HQ := Lib.hid hq
  have h34b : ¬ (m : Int) < 34 := h34
  clear ht hq
  go_enter Try.func35, Try.ntmps35
  go_wp2_with fail
  with_reducible refine HNW.out.mono ?_
  rintro e w0 ⟨p, rfl, ht0, hc0, hb0, hp0⟩
  have HX0 : Hid (MI w w0 tb p [] (.slice none 0 0)) := Lib.hid ⟨ht0, hc0, World.ownsRow_nil _ _ _ _, (fun e he => by cases he), Keeps.of_below hb0, hp0, fun g (hg : (Value.slice none 0 0).ownBlock = some g) => by cases hg⟩
  clear ht0 hc0 hb0 hp0 HNW h34 h34b
  have HZ0 := Lib.hid (HZ.out w0 HX0.out.keep)
  have hdN : ((zs.drop 32).take (34 - 32)) = (zs.drop 32).take 2 := rfl
  rw [hdN] at HS2
  have HND := Lib.hid (newDec na ((zs.drop 32).take 2) 2 nc w0 HS2.out.len (HS2.out.ints w0 HZ0.out) (inB_take (inB_drop HB.out 32) 2) (by omega))
  clear hdN
  go_upto_region 6 with fail
  clear hs1
  go_wp2_with fail
  with_reducible refine HND.out.mono ?_
  rintro e w1 ⟨p1, g1, rfl, hd1, hb1, hp1, hg1⟩
  have HD1 : Hid (DI 142 w0 p1 g1 ((zs.drop 32).take 2) w1) := Lib.hid ⟨hd1, hb1, hp1⟩
  clear hd1 hb1 hp1 hg1 HND hs2
  have HNU := Lib.hid (HD1.out.num (inB_take (inB_drop HB.out 32) 2) 2 (by omega) (by rw [HS2.out.len]; omega))
  rw [List.take_take, Nat.min_self] at HNU
  go_wp2_with fail
  refine HNU.out.mono ?_
  rintro e w2 ⟨rfl, hd2, _⟩
  have HX2 := Lib.hid (HX0.out.below hd2.2.1)
  have HIN := Lib.hid (hdF_in HB.out 32 2 (by have := H34.out; have := HM.out; omega))
  clear hd2 HNU HD1 HX0
  rw [show valB ((zs.drop 32).take 2) = hdF zs 32 2 from rfl]
  obtain ⟨N0, hN0⟩ : ∃ N0 : Nat, hdF zs 32 2 = (N0 : Int) := ⟨(hdF zs 32 2).toNat, by have := HIN.out; omega⟩
  have HN0 : Hid (N0 ≤ 65535) := Lib.hid (by have h := HIN.out; rw [hN0, show (256 : Int) ^ 2 = 65536 by decide] at h; omega)
  have HPN : Hid ((hdF zs 32 2).toNat = N0) := Lib.hid (by rw [hN0]; rfl)
  rw [hN0]
  clear hN0 HIN
  go_wp2_with fail
  go_loopw [7, 8, 9] (fun s r i wr => ∃ (j : Nat) (es : List EV) (R : List Int) (ro : Option Addr) (rn rc : Nat), i = .int .i64 (j : Int) ∧ r = .slice ro rn rc ∧ MI w wr tb p es s ∧ (∀ wx : World, Keeps (fun i => i = tb) w wx → IntsAt .u8 wx ro R) ∧ InB R ∧ R.length = rn ∧ rn ≤ rc ∧ rc ≤ maxLen ∧ rn ≤ 1000000 ∧ es.length + j ≤ 65535 ∧ parseC N0 (zs.drop 34) = (parseC j R).map (fun r => (ersL es ++ r.1, r.2))) (fun _ _ i _ => (intOf i).toNat)
  case atStart => exact ⟨N0, [], zs.drop 34, ra, q, qc, rfl, rfl, HX2.out, fun wx hk => HS1.out.ints wx (HZ.out wx hk), inB_drop HB.out 34, HS1.out.len, HS1.out.cap, by have := HS1.out.cm; have := HC.out; omega, by have := HQ.out; have := HC.out; omega, by simpa using HN0.out, by cases parseC N0 (zs.drop 34) <;> simp [ersL]⟩
  case round =>
    obtain ⟨j, es, R, ro, rn, rc, rfl, rfl, hx, hri, hrb, hrn, hrc, hrm, hrl, hjl, hpe⟩ := hrel
    have HX := Lib.hid hx
    have HRI := Lib.hid hri
    have HRB := Lib.hid hrb
    have HRN := Lib.hid hrn
    have HRC := Lib.hid (And.intro hrc (And.intro hrm hrl))
    have HJL := Lib.hid hjl
    have HPE := Lib.hid hpe
    clear hx hri hrb hrn hrc hrm hrl hjl hpe
    cases j with
    | zero =>
      have hj0 : ¬ (0 : Int) < ((0 : Nat) : Int) := by decide
      have HPS : Hid (importF zs = if R = [] then (if headC (ersL es) = zs.take 32 then (ersL es, 0) else ([], 17)) else ([], 2)) := Lib.hid (import_some H34.out.2 (by rw [HPN.out, HPE.out]; simp [parseC]))
      by_cases hR : R = []
      case neg =>
        have HR : Hid (importF zs = ([], 2)) := Lib.hid (by rw [HPS.out, if_neg hR])
        have hp : (0 : Int) < (rn : Int) := by have := HRN.out; have := List.length_pos_iff.2 hR; omega
        clear hR
        go_wp2
        go_ret2
        exact imp_none HX.out.tab HX.out.keep HR.out
      rw [if_pos hR] at HPS
      have hrn0 : rn = 0 := by rw [← HRN.out, hR]; rfl
      subst hrn0
      have hp : ¬ (0 : Int) < ((0 : Nat) : Int) := by decide
      clear hR
      obtain ⟨ha, hc, hg1, hg2⟩ := HX.out.ch
      have c1 : wr.cell? ⟨p, 1, none⟩ = some (.slice ha 32 hc) := blk_cell hg1 1
      have HBE := Lib.hid (bytes_equal ha bo (headC (ersL es)) (zs.take 32) 32 32 hc d wr.drew (headC_len _) (by rw [List.length_take]; have := H34.out; have := HM.out; omega) (owns_at hg2).2.1 ((HZ.out wr HX.out.keep).take 32) (headC_inB _) (inB_take HB.out 32))
      have HEQ : Hid (eqB (headC (ersL es)) (zs.take 32) = true ↔ headC (ersL es) = zs.take 32) := Lib.hid (by unfold eqB; exact decide_eq_true_iff)
      generalize eqB (headC (ersL es)) (zs.take 32) = B at *
      clear hg1 hg2
      go_upto_region 23 with fail
      refine wp_region_held_drew (S := fun w' => w'.cell? ⟨p, 1, none⟩ = some (.slice ha 32 hc)) (by kernel_rfl) ?_ (fun hHeld => ?_)
      · exact c1
      refine take_at (i := 0) (d := 71) (v := ?_) rfl rfl (by kernel_rfl) (by kernel_rfl) (by kernel_rfl) (fun _ _ _ h => h) (Or.inl ⟨by rfl, by intro w' hSw; (try dsimp only at hSw); go_simp; try with_reducible rfl⟩) (by assumption) ?_
      simp only [List.setIfInBounds_toArray, List.set_cons_zero, List.set_cons_succ]
      refine take_at (i := 1) (d := 72) (v := ?_) rfl rfl (by kernel_rfl) (by kernel_rfl) (by kernel_rfl) (fun _ _ _ h => h) (Or.inl ⟨by rfl, by intro w' hSw; (try dsimp only at hSw); go_simp; try with_reducible rfl⟩) (by assumption) ?_
      simp only [List.setIfInBounds_toArray, List.set_cons_zero, List.set_cons_succ]
      refine take_at (i := 2) (d := 73) (v := ?_) rfl rfl (by kernel_rfl) (by kernel_rfl) (by kernel_rfl) (fun _ _ _ h => h) (Or.inl ⟨by rfl, by intro w' hSw; (try dsimp only at hSw); go_simp; try with_reducible rfl⟩) (by assumption) ?_
      simp only [List.setIfInBounds_toArray, List.set_cons_zero, List.set_cons_succ]
      refine take_at (i := 3) (d := 74) (v := ?_) rfl rfl (by kernel_rfl) (by kernel_rfl) (by kernel_rfl) (fun _ _ _ h => h) (Or.inl ⟨by rfl, by intro w' hSw; (try dsimp only at hSw); go_simp; try with_reducible rfl⟩) (by assumption) ?_
      simp only [List.setIfInBounds_toArray, List.set_cons_zero, List.set_cons_succ]
      refine take_at (i := 4) (d := 75) (v := ?_) rfl rfl (by kernel_rfl) (by kernel_rfl) (by kernel_rfl) (fun _ _ _ h => h) (Or.inl ⟨by rfl, by intro w' hSw; (try dsimp only at hSw); go_simp; try with_reducible rfl⟩) (by assumption) ?_
      simp only [List.setIfInBounds_toArray, List.set_cons_zero, List.set_cons_succ]
      refine take_at (i := 5) (d := 76) (v := ?_) rfl rfl (by kernel_rfl) (by kernel_rfl) (by kernel_rfl) (fun _ _ _ h => h) (Or.inl ⟨by rfl, by intro w' hSw; (try dsimp only at hSw); go_simp; try with_reducible rfl⟩) (by assumption) ?_
      simp only [List.setIfInBounds_toArray, List.set_cons_zero, List.set_cons_succ]
      refine wpAnyH_ready (rs := [6]) (by kernel_rfl) (by simp) ?_
      refine AllReadyH.cons rfl (fun K hK => ?_) AllReadyH.nil
      go_simp
      refine HBE.out.mono ?_
      rintro e w9 ⟨rfl, rfl⟩
      dsimp only
      go_wp2_with fail
      refine hK.out _ _ ?_ (fun hHeld => ?_)
      · exact c1
      clear hK K
      try simp only [Act.put, List.getElem_toArray, List.getElem_cons_succ, List.getElem_cons_zero]
      try simp only [List.setIfInBounds_toArray, List.set_cons_zero, List.set_cons_succ]
      refine take_at (i := 7) (d := 78) (v := ?_) rfl rfl (by kernel_rfl) (by kernel_rfl) (by kernel_rfl) (fun _ _ _ h => h) (Or.inl ⟨by rfl, by intro w' hSw; (try dsimp only at hSw); go_simp; try with_reducible rfl⟩) (by assumption) ?_
      simp only [List.setIfInBounds_toArray, List.set_cons_zero, List.set_cons_succ]
      refine take_at (i := 8) (d := 70) (v := ?_) rfl rfl (by kernel_rfl) (by kernel_rfl) (by kernel_rfl) (fun _ _ _ h => h) (Or.inl ⟨by rfl, by intro w' hSw; (try dsimp only at hSw); go_simp; try with_reducible rfl⟩) (by assumption) ?_
      simp only [List.setIfInBounds_toArray, List.set_cons_zero, List.set_cons_succ]
      refine wpAnyH_done (by kernel_rfl) ?_ _
      cases B with
      | false =>
        have HR : Hid (importF zs = ([], 17)) := Lib.hid (by rw [HPS.out, if_neg (fun e => by have := HEQ.out.2 e; cases this)])
        go_wp2
        go_ret2
        exact imp_none HX.out.tab HX.out.keep.drew HR.out
      | true =>
        have HR : Hid (importF zs = (ersL es, 0)) := Lib.hid (by rw [HPS.out, if_pos (HEQ.out.1 rfl)])
        obtain ⟨so, sc, hv, hsc, hsm⟩ := own_shape HX.out.row
        subst hv
        have HEA := Lib.hid (HX.out.entAt rfl)
        have HSC := Lib.hid (And.intro hsc hsm)
        clear hsc hsm
        go_wp2
        go_ret2
        rw [HR.out]
        exact ⟨so, sc, es, by rw [ersL_len]; rfl, HX.out.tab, HX.out.keep.drew, rfl, HEA.out, by rw [ersL_len]; exact HSC.out.1, HSC.out.2⟩
    | succ j =>
      have hj1 : (0 : Int) < ((j + 1 : Nat) : Int) := by omega
      have hjw : ((j + 1 : Nat) : Int) - 1 = (j : Int) := by omega
      by_cases h5 : (rn : Int) < 5
      · have HR : Hid (importF zs = ([], 2)) := Lib.hid (import_none H34.out.2 (by rw [HPN.out, HPE.out, parse_short j R (by have := HRN.out; omega)]; rfl))
        clear hjw
        go_wp2
        go_ret2
        exact imp_none HX.out.tab HX.out.keep HR.out
      have H5 : Hid (5 ≤ rn ∧ ¬ R.length < 5) := Lib.hid (by have := HRN.out; omega)
      have HH1 := Lib.hid (hdF_1 HRB.out 0 (by have := H5.out; omega))
      have HH4 := Lib.hid (hdF_4 HRB.out 1 (by have := H5.out; omega))
      obtain ⟨k0, hk0⟩ : ∃ k0, k0 = hdF R 0 1 := ⟨_, rfl⟩
      obtain ⟨K, hK⟩ : ∃ K : Nat, hdF R 1 4 = (K : Int) := ⟨(hdF R 1 4).toNat, by have := HH4.out; omega⟩
      have HR5 : Hid ((R.take 5).length = 5) := Lib.hid (by rw [List.length_take]; have := H5.out; omega)
      have HV1 : Hid (valB ((R.take 5).take 1) = k0) := Lib.hid (by rw [List.take_take, hk0]; rfl)
      have HV4 : Hid (valB (((R.take 5).drop 1).take 4) = (K : Int)) := Lib.hid (by rw [← hK, List.drop_take, List.take_take]; rfl)
      have HKE : Hid (hdF R 0 1 = k0 ∧ hdF R 1 4 = (K : Int)) := Lib.hid ⟨hk0.symm, hK⟩
      rw [← hk0] at HH1
      rw [hK] at HH4
      have hs5 : ∀ w, (Instr.slice 29 (.slice ro rn rc) none (some (.int .i64 5)) none).run Try.prog w = .ok (.slice ro 5 rc) w := fun w => slice_h ro rn rc 5 (by have := H5.out; have := HRC.out; omega) w
      have HND := Lib.hid (newDec ro (R.take 5) 5 rc wr HR5.out ((HRI.out wr HX.out.keep).take 5) (inB_take HRB.out 5) (by omega))
      clear hk0 hK
      go_wp2_with fail
      with_reducible refine HND.out.mono ?_
      rintro e w1 ⟨p2, g2, rfl, hd1, hb1, hp1, hg1⟩
      have HD1 : Hid (DI 142 wr p2 g2 (R.take 5) w1) := Lib.hid ⟨hd1, hb1, hp1⟩
      have HPG : Hid (wr.heap.size ≤ p2 ∧ wr.heap.size ≤ g2) := Lib.hid ⟨hp1, hg1⟩
      clear hd1 hb1 hp1 hg1 HND hs5 h5
      have HNU := Lib.hid (HD1.out.num (inB_take HRB.out 5) 1 (by omega) (by rw [HR5.out]; omega))
      rw [HV1.out] at HNU
      go_wp2_with fail
      refine HNU.out.mono ?_
      rintro e w2 ⟨rfl, hd2, _⟩
      obtain ⟨w3, hw3⟩ : ∃ w3, w3 = w2.alloc (.cells #[.int .i64 k0, .slice none 0 0] 34) := ⟨_, rfl⟩
      have HB3 : Hid (Below w2.heap.size w2 w3) := Lib.hid (by rw [hw3]; exact (Below.refl _ _).alloc (Nat.le_refl _) _)
      have HY3 : Hid (EBox w3 w2.heap.size k0 (.slice none 0 0)) := Lib.hid (by rw [hw3]; exact EBox.new _ _ _)
      have HD3 := Lib.hid (hd2.later HB3.out)
      have HXB : Hid (wr.heap.size ≤ w2.heap.size ∧ p2 < w2.heap.size ∧ (g2 < w2.heap.size ∨ True)) := Lib.hid ⟨hd2.2.1.size, hd2.1.lt, Or.inr trivial⟩
      have HW3 := Lib.hid hw3
      clear hd2 HNU HD1 hw3
      go_upto_region 13 with fail
      rw [← HW3.out]
      generalize w2.heap.size = X at *
      have HNU := Lib.hid (HD3.out.num (inB_drop (inB_take HRB.out 5) 1) 4 (by omega) (by rw [List.length_drop, HR5.out]; omega))
      rw [HV4.out] at HNU
      go_wp2_with fail
      refine HNU.out.mono ?_
      rintro e w4 ⟨rfl, hd4, hk4⟩
      have HY4 := Lib.hid (HY3.out.keep hk4 (by have := HXB.out; omega))
      have HB4 := Lib.hid hd4.2.1
      clear hd4 hk4 HNU HD3 HY3 HB3
      have hwr : wrap64 ((rn : Int) - 5) = (rn : Int) - 5 := by have := HRC.out; unfold wrap64; omega
      go_upto_region 14 with fail
      by_cases hbig : (rn : Int) - 5 < (K : Int)
      · have HR : Hid (importF zs = ([], 2)) := Lib.hid (import_none H34.out.2 (by rw [HPN.out, HPE.out, parse_wide j R H5.out.2 (Or.inr (by rw [HKE.out.2, HRN.out]; exact hbig))]; rfl))
        go_wp2
        go_ret2
        exact imp_none (HX.out.below HB4.out).tab (HX.out.below HB4.out).keep HR.out
      by_cases hbig2 : (60000 : Int) < (K : Int)
      · have HR : Hid (importF zs = ([], 2)) := Lib.hid (import_none H34.out.2 (by rw [HPN.out, HPE.out, parse_wide j R H5.out.2 (Or.inl (by rw [HKE.out.2]; exact hbig2))]; rfl))
        go_wp2
        go_ret2
        exact imp_none (HX.out.below HB4.out).tab (HX.out.below HB4.out).keep HR.out
      have HKL : Hid (5 + K ≤ rn ∧ K ≤ 60000) := Lib.hid (by omega)
      have HPS : Hid (parseC (j + 1) R = (parseC j (R.drop (5 + K))).map (fun r => (⟨k0, (R.drop 5).take K⟩ :: r.1, r.2))) := Lib.hid (by
        have h := parse_step j R H5.out.2 (by rw [HKE.out.2, HRN.out]; have := HKL.out; omega)
        rw [HKE.out.1, HKE.out.2] at h
        exact h)
      go_upto_region 16 with fail
      clear hbig hbig2 hwr
      obtain ⟨Q, hQ⟩ : ∃ Q, Q = 5 + K := ⟨_, rfl⟩
      have w5 : wrap64 (5 + (K : Int)) = (Q : Int) := by rw [hQ]; have := HKL.out; unfold wrap64; omega
      have hs6 : ∀ w, (Instr.slice 29 (.slice ro rn rc) (some (.int .i64 5)) (some (.int .i64 (Q : Int))) none).run Try.prog w = .ok (.slice (slcA ro 5 rc) K (rc - 5)) w := fun w => by
        have h := slice_lh ro rn rc 5 Q (by omega) (by have := HKL.out; have := HRC.out; omega) w
        rw [show Q - 5 = K by omega] at h
        exact h
      have hs7 : ∀ w, (Instr.slice 29 (.slice ro rn rc) (some (.int .i64 (Q : Int))) none none).run Try.prog w = .ok (.slice (slcA ro Q rc) (rn - Q) (rc - Q)) w := fun w => slice_l ro rn rc Q (by have := HKL.out; omega) w
      have HS6 := Lib.hid (slc_of ro R rn rc 5 (5 + K) HRN.out (by omega) HKL.out.1 HRC.out.1)
      rw [show 5 + K - 5 = K by omega] at HS6
      have HS7 := Lib.hid (slc_drop ro R rn rc Q HRN.out (by have := HKL.out; omega) HRC.out.1)
      have HRL : Hid (rn - Q ≤ 1000000) := Lib.hid (by have := HRC.out; omega)
      rw [← hQ] at HPS
      clear hQ
      generalize slcA ro 5 rc = sa at *
      generalize rc - 5 = sc at *
      generalize slcA ro Q rc = sb at *
      generalize rn - Q = sn at *
      generalize rc - Q = sd at *
      have HX4 := Lib.hid (HX.out.below HB4.out)
      obtain ⟨B, hBB⟩ : ∃ B, B = (R.drop 5).take K := ⟨_, rfl⟩
      rw [← hBB] at HS6 HPS
      have HBI : Hid (InB B) := Lib.hid (by rw [hBB]; exact inB_take (inB_drop HRB.out 5) K)
      have HCL := Lib.hid (bclone_u8 sa B K sc w4 HS6.out.len (HS6.out.ints w4 (HRI.out w4 HX4.out.keep)) (by have := HKL.out; omega))
      clear hBB
      obtain ⟨y0, y1⟩ := HY4.out.cells
      have f1 : w4.frozen? ⟨X, 1, none⟩ = false := blk_frozen HY4.out 1
      go_wp2_with fail
      with_reducible refine HCL.out.mono ?_
      rintro e w5 ⟨ba, bc, rfl, hr5⟩
      rw [HS6.out.len] at hr5 ⊢
      have HO5 : Hid (w5.ownsRow 0 5 1 (.slice ba K bc) K (B.map (Value.int .u8))) := Lib.hid (by have h := hr5.1; rw [HS6.out.len] at h; exact h)
      have HY5 := Lib.hid (HY4.out.below hr5.2.1)
      have HB5 : Hid (Below wr.heap.size wr w5) := Lib.hid (below_step HB4.out hr5.2.1)
      have HF5 : Hid (∀ g, (Value.slice ba K bc).ownBlock = some g → X < g) := Lib.hid (fun g hg => Nat.lt_of_lt_of_le HY4.out.lt (hr5.2.2 g hg))
      clear hr5 HCL y0 y1 f1 hs6
      obtain ⟨y0, y1⟩ := HY5.out.cells
      have f1 : w5.frozen? ⟨X, 1, none⟩ = false := blk_frozen HY5.out 1
      go_upto_region 17 with fail
      obtain ⟨w6, hw6⟩ : ∃ w6, w6 = w5.setCell ⟨X, 1, none⟩ (.slice ba K bc) := ⟨_, rfl⟩
      rw [← hw6]
      have hk6 : Keeps (fun i => i = X) w5 w6 := by rw [hw6]; exact (Keeps.refl (fun i => i = X) w5).setCell (p := ⟨X, 1, none⟩) (Or.inl rfl) _
      have HY6 : Hid (EBox w6 X k0 (.slice ba K bc)) := Lib.hid (by rw [hw6]; have h := blk_set HY5.out 1 (.slice ba K bc); simpa [EBox] using h)
      have HB6 : Hid (Below wr.heap.size wr w6) := Lib.hid (below_fp HB5.out hk6 (fun i hi => by have := HXB.out; omega))
      have HO6 : Hid (w6.ownsRow 0 5 1 (.slice ba K bc) K (B.map (Value.int .u8))) := Lib.hid (ownsRow_same HO5.out (fun g hg => hk6.block g (HO5.out.lt g hg).2 (by have := HF5.out g hg; omega)))
      have HX6 := Lib.hid (HX.out.below HB6.out)
      clear hk6 hw6 y0 y1 f1 HO5 HY5
      obtain ⟨y0, y1⟩ := HY6.out.cells
      have HELN : Hid ((ersL es).length ≤ 65535) := Lib.hid (by rw [ersL_len]; have := HJL.out; omega)
      have HAD := Lib.hid (chain_add tb p (ersL es) ⟨k0, B⟩ ba K bc w6 HX6.out.tab HX6.out.ch HS6.out.len (owns_at HO6.out).2.1 HBI.out (by have := HELN.out; omega))
      have HBF : Hid (badF ⟨k0, B⟩ = 0) := Lib.hid ((badF_ok _).2 ⟨HH1.out, by show B.length ≤ 60000; rw [HS6.out.len]; exact HKL.out.2⟩)
      dsimp only at HAD
      rw [HBF.out] at HAD
      go_wp2_with fail
      with_reducible refine HAD.out.mono ?_
      rintro e w7 ⟨rfl, ht7, ⟨ha7, hc7, hg7, _⟩, hk7⟩
      rw [if_pos trivial] at hg7
      have HS67 : Hid (∀ i, (i = tb ∨ i = p) → ∃ T', TyAt w6 i T' ∧ 5 ≠ T' ∧ 34 ≠ T') := Lib.hid (fun i hi => by
        rcases hi with e | e
        · exact ⟨_, e ▸ HX6.out.tab.ty, by decide, by decide⟩
        · exact ⟨_, e ▸ HX6.out.ch.ty, by decide, by decide⟩)
      have HT7 := Lib.hid ht7
      have HC7 : Hid (CI tb w7 p (ersL es ++ [⟨k0, B⟩])) := Lib.hid ⟨ha7, hc7, hg7⟩
      have HK7 : Hid (Keeps (fun i => i = tb) w w7) := Lib.hid (HX6.out.keep.trans hk7 (fun i hi => by have := HX6.out.own; omega))
      have HR7 := Lib.hid (hk7.row HX6.out.row (fun i hi => (HS67.out i hi).imp fun T h => ⟨h.1, h.2.2⟩))
      have HE7 : Hid (∀ e ∈ es, w7.ownsRow 0 5 1 (.slice e.ao e.b.length e.c) e.b.length (e.b.map (Value.int .u8)) ∧ InB e.b) := Lib.hid (fun e he => ⟨hk7.row (HX6.out.ents e he).1 (fun i hi => (HS67.out i hi).imp fun T h => ⟨h.1, h.2.1⟩), (HX6.out.ents e he).2⟩)
      have HO7 := Lib.hid (hk7.row HO6.out (fun i hi => (HS67.out i hi).imp fun T h => ⟨h.1, h.2.1⟩))
      have HY7 := Lib.hid (HY6.out.keep hk7 (by have h1 := HX.out.tab.lt; have h2 := HX.out.ch.lt; have := HXB.out; omega))
      clear ht7 hg7 hk7 HAD y0 y1 HY6 HO6
      obtain ⟨y0, y1⟩ := HY7.out.cells
      obtain ⟨i0, hi0, hz0, hz1, hz2⟩ := info_parts Try_infoE
      obtain ⟨so, sc0, hv, _, _⟩ := own_shape HR7.out
      subst hv
      have hz00 : ((0 : Int) != 0) = false := rfl
      go_upto_region 19 with fail
      have HPA : Hid ((w7.alloc (.cells #[.int .i64 k0, .slice ba K bc] 34)).ownsRow 0 34 2 (.slice so es.length sc0) es.length (es.flatMap EV.cells)) := Lib.hid (ownsRow_same HR7.out (fun g hg => Below.heap_alloc _ _ _ (by simpa using (HR7.out.lt g hg).2)))
      have HNW : Hid (∀ ad, some (⟨w7.heap.size, 0, none⟩ : Addr) = some ad → ∀ j u, ([.int .i64 k0, .slice ba K bc] : List Value)[j]? = some u → (w7.alloc (.cells #[.int .i64 k0, .slice ba K bc] 34)).cell? (ad.add j) = some u) := Lib.hid (fun ad had => by cases had; exact World.news_of_block (heap_alloc_new _ _))
      have HEL2 : Hid (es.length ≤ 65535) := Lib.hid (by have := HJL.out; omega)
      go_wp2_with (at_builtin; refine wpList_append_any rfl _ _ 22 rfl 34 i0 _ 2 32 Try.underlying22 hi0 hz0 hz1 hz2 rfl (by decide) (.slice so es.length sc0) es.length _ rfl HPA.out (some ⟨w7.heap.size, 0, none⟩) 1 1 [.int .i64 k0, .slice ba K bc] rfl ?c1 ?c2 ?c3 ?c4 ?c5 ?c6 ?_)
      case c1 => rfl
      case c2 => intro e; cases e
      case c3 => exact HNW.out
      case c4 => intro u hu; simp at hu; rcases hu with e | e <;> rw [e] <;> rfl
      case c5 => have := HEL2.out; unfold maxLen; omega
      case c6 => have := HEL2.out; omega
      intro ao9 cap9 w9 hown hgrow hat hnn
      have hk8 : Below w7.heap.size w7 (w7.alloc (.cells #[.int .i64 k0, .slice ba K bc] 34)) := (Below.refl _ _).alloc (Nat.le_refl _) _
      have hk9 : Keeps (fun i => (Value.slice so es.length sc0).ownBlock = some i) (w7.alloc (.cells #[.int .i64 k0, .slice ba K bc] 34)) w9 := (Keeps.refl _ _).grown hgrow (fun i hi => Or.inl hi)
      have hS9 : ∀ i, (Value.slice so es.length sc0).ownBlock = some i → ∃ T', TyAt (w7.alloc (.cells #[.int .i64 k0, .slice ba K bc] 34)) i T' ∧ 5 ≠ T' ∧ 95 ≠ T' ∧ 93 ≠ T' := fun i hi => by
        obtain ⟨cur, h⟩ := row_ty HPA.out hi
        exact ⟨_, ⟨_, _, h⟩, by decide, by decide, by decide⟩
      have HX9 : Hid (MI w w9 tb p (es ++ [⟨k0, ba, B, bc⟩]) (.slice ao9 (es.length + 1) cap9)) := Lib.hid (by
        have ht8 := HT7.out.below hk8
        refine ⟨?_, ?_, ?_, ?_, ?_, HX.out.own, ?_⟩
        · refine tab_keep ht8 hk9 (fun hi => ?_)
          obtain ⟨T', h1, _, _, h2⟩ := hS9 tb hi
          obtain ⟨cs, f, h3⟩ := ht8.ty
          exact h1.ne h3 h2 rfl
        · have h := (HC7.out.below hk8).keepT hk9 (fun i hi => (hS9 i hi).imp fun T h => ⟨h.1, h.2.1, h.2.2.1⟩)
          have he : ersL (es ++ [⟨k0, ba, B, bc⟩]) = ersL es ++ [⟨k0, B⟩] := by simp [ersL, EV.er]
          rw [he]
          exact h
        · have he : (es ++ [(⟨k0, ba, B, bc⟩ : EV)]).flatMap EV.cells = es.flatMap EV.cells ++ [.int .i64 k0, .slice ba K bc] := by
            rw [List.flatMap_append]
            simp only [List.flatMap_cons, List.flatMap_nil, List.append_nil, EV.cells, HS6.out.len]
          rw [he, List.length_append]
          exact hown
        · intro e he
          rcases List.mem_append.1 he with h | h
          · exact ⟨hk9.row (ownsRow_same (HE7.out e h).1 (fun g hg => hk8.block g ((HE7.out e h).1.lt g hg).2)) (fun i hi => (hS9 i hi).imp fun T h => ⟨h.1, h.2.1⟩), (HE7.out e h).2⟩
          · simp only [List.mem_singleton] at h
            rw [h]
            refine ⟨?_, HBI.out⟩
            dsimp only
            rw [HS6.out.len]
            exact hk9.row (ownsRow_same HO7.out (fun g hg => hk8.block g (HO7.out.lt g hg).2)) (fun i hi => (hS9 i hi).imp fun T h => ⟨h.1, h.2.1⟩)
        · exact (HK7.out.step hk8).trans hk9 (fun i hi => Or.inr (HX.out.fr i hi))
        · intro g hg
          rcases hat g hg with h | h
          · exact HX.out.fr g h
          · have := HK7.out.size
            have := hk8.size
            omega)
      clear hown hgrow hat hnn hk8 hk9 hS9 y0 y1
      have HPE2 : Hid (parseC N0 (zs.drop 34) = (parseC j (R.drop Q)).map (fun r => (ersL (es ++ [⟨k0, ba, B, bc⟩]) ++ r.1, r.2))) := Lib.hid (by
        rw [HPE.out, HPS.out]
        have he : ersL (es ++ [⟨k0, ba, B, bc⟩]) = ersL es ++ [⟨k0, B⟩] := by simp [ersL, EV.er]
        rw [he]
        cases parseC j (R.drop Q) <;> simp)
      have HWJ : Hid (wrap64 (j : Int) = (j : Int)) := Lib.hid (by have := HJL.out; unfold wrap64; omega)
      have HJ2 : Hid ((intOf (.int .i64 (j : Int))).toNat < (intOf (.int .i64 ((j + 1 : Nat) : Int))).toNat) := Lib.hid (by simp only [intOf]; omega)
      go_wp2
      refine ⟨⟨j, es ++ [⟨k0, ba, B, bc⟩], R.drop Q, sb, sn, sd, ?_, rfl, HX9.out, fun wx hk => HS7.out.ints wx (HRI.out wx hk), inB_drop HRB.out Q, HS7.out.len, HS7.out.cap, by have := HS7.out.cm; have := HRC.out; omega, HRL.out, by rw [List.length_append]; have := HJL.out; simp only [List.length_cons, List.length_nil]; omega, HPE2.out⟩, ?_⟩
      · rw [HWJ.out]
      · rw [HWJ.out]
        exact HJ2.out

theorem decNum_low (zs : List Int) (s : Nat) (h1 : 1 ≤ s ∧ s ≤ 7) (h : zs.length < s) : decNum zs 0 s = (0, zs, 2) := by
  have hM : mayB (s : Int) = true := by unfold mayB; exact decide_eq_true (by omega)
  have e : numF zs s = (0, 2) := by
    unfold numF
    rw [if_pos hM, if_pos (by omega)]
  unfold decNum
  rw [if_pos rfl, e, if_neg (by decide)]
theorem decNum_err (zs : List Int) (e s : Int) (h : e ≠ 0) : decNum zs e s = (0, zs, e) := by unfold decNum; rw [if_neg h]
theorem decRaw_err (zs : List Int) (e s : Int) (h : e ≠ 0) : decRaw zs e s = ([], zs, e) := by unfold decRaw; rw [if_neg h]
/-- What the reference makes of one entry. -/
structure RStep (Z : List Int) (j : Nat) (k0 k : Int) (B R : List Int) (e : Int) : Prop where
  wide : 60000 < k → parseC (j + 1) Z = none
  fine : ¬ 60000 < k → (e = 0 ∧ parseC (j + 1) Z = (parseC j R).map (fun r => (⟨k0, B⟩ :: r.1, r.2)) ∧ (0 ≤ k0 ∧ k0 ≤ 255) ∧ B.length ≤ 60000) ∨ (e ≠ 0 ∧ parseC (j + 1) Z = none)
theorem rstep (Z : List Int) (hB : InB Z) (j : Nat) : RStep Z j (decNum Z 0 1).1 (decNum (decNum Z 0 1).2.1 (decNum Z 0 1).2.2 4).1
    (decRaw (decNum (decNum Z 0 1).2.1 (decNum Z 0 1).2.2 4).2.1 (decNum (decNum Z 0 1).2.1 (decNum Z 0 1).2.2 4).2.2 (decNum (decNum Z 0 1).2.1 (decNum Z 0 1).2.2 4).1).1
    (decRaw (decNum (decNum Z 0 1).2.1 (decNum Z 0 1).2.2 4).2.1 (decNum (decNum Z 0 1).2.1 (decNum Z 0 1).2.2 4).2.2 (decNum (decNum Z 0 1).2.1 (decNum Z 0 1).2.2 4).1).2.1
    (decRaw (decNum (decNum Z 0 1).2.1 (decNum Z 0 1).2.2 4).2.1 (decNum (decNum Z 0 1).2.1 (decNum Z 0 1).2.2 4).2.2 (decNum (decNum Z 0 1).2.1 (decNum Z 0 1).2.2 4).1).2.2 := by
  by_cases h5 : Z.length < 5
  · have hp := parse_short j Z h5
    by_cases h0 : Z.length < 1
    · rw [show decNum Z 0 1 = (0, Z, 2) from decNum_low Z 1 (by omega) h0]
      dsimp only
      rw [decNum_err _ _ _ (by decide)]
      dsimp only
      rw [decRaw_err _ _ _ (by decide)]
      exact ⟨fun h => by omega, fun _ => Or.inr ⟨(by decide : (2 : Int) ≠ 0), hp⟩⟩
    · rw [show decNum Z 0 1 = (valB (Z.take 1), Z.drop 1, 0) from decNum_ok hB 1 (by omega) (by omega)]
      dsimp only
      rw [show decNum (Z.drop 1) 0 4 = (0, Z.drop 1, 2) from decNum_low (Z.drop 1) 4 (by omega) (by rw [List.length_drop]; omega)]
      dsimp only
      rw [decRaw_err _ _ _ (by decide)]
      exact ⟨fun h => by omega, fun _ => Or.inr ⟨(by decide : (2 : Int) ≠ 0), hp⟩⟩
  · rw [show decNum Z 0 1 = (valB (Z.take 1), Z.drop 1, 0) from decNum_ok hB 1 (by omega) (by omega)]
    dsimp only
    rw [show decNum (Z.drop 1) 0 4 = (valB ((Z.drop 1).take 4), (Z.drop 1).drop 4, 0) from decNum_ok (inB_drop hB 1) 4 (by omega) (by rw [List.length_drop]; omega)]
    dsimp only
    rw [List.drop_drop]
    have hk : valB ((Z.drop 1).take 4) = hdF Z 1 4 := rfl
    have hk0 : valB (Z.take 1) = hdF Z 0 1 := rfl
    have hr := hdF_4 hB 1 (by omega)
    have hr0 := hdF_1 hB 0 (by omega)
    rw [hk, hk0]
    refine ⟨fun h => parse_wide j Z h5 (Or.inl h), fun h => ?_⟩
    unfold decRaw
    rw [if_pos rfl]
    by_cases hs : (Z.length : Int) - 5 < hdF Z 1 4
    · rw [if_pos (Or.inr (by rw [List.length_drop]; omega))]
      exact Or.inr ⟨(by decide : (2 : Int) ≠ 0), parse_wide j Z h5 (Or.inr hs)⟩
    · rw [if_neg (by rw [List.length_drop]; omega)]
      refine Or.inl ⟨rfl, ?_, hr0, ?_⟩
      · rw [parse_step j Z h5 (by omega), List.drop_drop]
      · dsimp only; rw [List.length_take, List.length_drop]; omega
/-- What the reference reads first. -/
theorem rfirst (zs : List Int) (hB : InB zs) :
    (zs.length < 34 → (decNum (decRaw zs 0 32).2.1 (decRaw zs 0 32).2.2 2).1 = 0 ∧ (decNum (decRaw zs 0 32).2.1 (decRaw zs 0 32).2.2 2).2.2 ≠ 0) ∧
    (¬ zs.length < 34 → decRaw zs 0 32 = (zs.take 32, zs.drop 32, 0) ∧ decNum (zs.drop 32) 0 2 = (hdF zs 32 2, zs.drop 34, 0)) := by
  constructor
  · intro h
    by_cases h2 : zs.length < 32
    · have e : decRaw zs 0 32 = ([], zs, 2) := by unfold decRaw; rw [if_pos rfl, if_pos (Or.inr (by omega))]
      rw [e]
      dsimp only
      rw [decNum_err _ _ _ (by decide)]
      exact ⟨rfl, (by decide : (2 : Int) ≠ 0)⟩
    · have e : decRaw zs 0 32 = (zs.take 32, zs.drop 32, 0) := by unfold decRaw; rw [if_pos rfl, if_neg (by omega)]; rfl
      rw [e]
      dsimp only
      rw [show decNum (zs.drop 32) 0 2 = (0, zs.drop 32, 2) from decNum_low (zs.drop 32) 2 (by omega) (by rw [List.length_drop]; omega)]
      exact ⟨rfl, (by decide : (2 : Int) ≠ 0)⟩
  · intro h
    refine ⟨by unfold decRaw; rw [if_pos rfl, if_neg (by omega)]; rfl, ?_⟩
    rw [show decNum (zs.drop 32) 0 2 = (valB ((zs.drop 32).take 2), (zs.drop 32).drop 2, 0) from decNum_ok (inB_drop hB 32) 2 (by omega) (by rw [List.length_drop]; omega), List.drop_drop]
    rfl
/-- A decoder laid over any bytes. -/
theorem dec_box2 (T : TypeId) {w : World} {ao : Option Addr} {zs : List Int} {n c : Nat} (hn : zs.length = n) (hz : IntsAt .u8 w ao zs) (hB : InB zs) (hc : n ≤ c) (hm : c ≤ maxLen) (hl : n ≤ 140737488355328) :
    ∃ g, DecAt T (w.alloc (.cells #[.slice ao n c, .int .i64 0] T)) w.heap.size g zs 0 ∧ (zs = [] ∨ g < w.heap.size) := by
  by_cases h0 : n = 0
  · subst h0
    have hz0 : zs = [] := List.eq_nil_of_length_eq_zero hn
    exact ⟨w.heap.size + 1, ⟨ao, c, by rw [hn]; exact heap_alloc_new w _, Or.inl hz0, by rw [hn]; exact hc, hm, hB, by rw [hn]; exact hl, Or.inl hz0, by omega⟩, Or.inl hz0⟩
  · rcases hz with hz | ⟨b, off, rfl, hcl⟩
    · rw [hz] at hn; exact absurd hn.symm h0
    · obtain ⟨h1, h2⟩ := dec_box T (w := w) (b := b) (off := off) hn (Or.inr ⟨b, off, rfl, hcl⟩) hB hc hm hl (by omega)
      exact ⟨b, h1, Or.inr h2⟩
theorem DecAt.inB {T : TypeId} {w : World} {p g : Nat} {zs : List Int} {e : Int} (h : DecAt T w p g zs e) : InB zs := by
  obtain ⟨_, _, _, _, _, _, h, _⟩ := h; exact h
theorem DecAt.ty {T : TypeId} {w : World} {p g : Nat} {zs : List Int} {e : Int} (h : DecAt T w p g zs e) : TyAt w p T := by
  obtain ⟨_, _, h, _⟩ := h; exact ⟨_, _, h⟩
/-- A reading under way. -/
structure RI (w wr : World) (p g : Nat) (Z : List Int) (e : Int) (ho : Option Addr) (hc : Nat) (H : List Int) (es : List EV) (v : Value) : Prop where
  dec : DecAt 127 wr p g Z e
  hd : wr.ownsRow 0 5 1 (.slice ho H.length hc) H.length (H.map (Value.int .u8))
  row : wr.ownsRow 0 34 2 v es.length (es.flatMap EV.cells)
  ents : ∀ e ∈ es, wr.ownsRow 0 5 1 (.slice e.ao e.b.length e.c) e.b.length (e.b.map (Value.int .u8)) ∧ InB e.b
  bel : Below w.heap.size w wr
  own : w.heap.size ≤ p
  fr : ∀ g, v.ownBlock = some g → w.heap.size ≤ g
  gl : Z = [] ∨ g < w.heap.size
section
variable {w wr w' : World} {p g : Nat} {Z Z' : List Int} {e e' : Int} {ho : Option Addr} {hc : Nat} {H : List Int} {es : List EV} {v : Value}
theorem RI.below (h : RI w wr p g Z e ho hc H es v) (hb : Below wr.heap.size wr w') : RI w w' p g Z e ho hc H es v :=
  ⟨h.dec.keep (S := fun _ => False) (Keeps.of_below hb) (fun h => h) (Or.inr (fun h => h)), ownsRow_same h.hd (fun g hg => hb.block g (h.hd.lt g hg).2), ownsRow_same h.row (fun g hg => hb.block g (h.row.lt g hg).2), fun e he => ⟨ownsRow_same (h.ents e he).1 (fun g hg => hb.block g ((h.ents e he).1.lt g hg).2), (h.ents e he).2⟩, below_step h.bel hb, h.own, h.fr, h.gl⟩
/-- The decoder turned. -/
theorem RI.read (h : RI w wr p g Z e ho hc H es v) (hp : DecPost 127 wr p g Z' e' w') (hz : Z' = [] ∨ g < w.heap.size) : RI w w' p g Z' e' ho hc H es v := by
  have hk := hp.2
  have hS8 : ∀ i, i = p → ∃ T', TyAt wr i T' ∧ 5 ≠ T' := fun i hi => ⟨_, hi ▸ h.dec.ty, by decide⟩
  have hSE : ∀ i, i = p → ∃ T', TyAt wr i T' ∧ 34 ≠ T' := fun i hi => ⟨_, hi ▸ h.dec.ty, by decide⟩
  exact ⟨hp.1, hk.row h.hd hS8, hk.row h.row hSE, fun e he => ⟨hk.row (h.ents e he).1 hS8, (h.ents e he).2⟩, below_fp h.bel hk (fun i hi => by have := h.own; omega), h.own, h.fr, hz⟩
end

section
variable {w wr w' : World} {p g X : Nat} {Z : List Int} {e : Int} {ho : Option Addr} {hc : Nat} {H : List Int} {es : List EV} {v : Value}
/-- A box written. -/
theorem RI.box (h : RI w wr p g Z e ho hc H es v) (hk : Keeps (fun i => i = X) wr w') (hX : TyAt wr X 34) (hr : ∀ b, v.ownBlock = some b → b ≠ X) (hp : p ≠ X) (hl : w.heap.size ≤ X) : RI w w' p g Z e ho hc H es v := by
  have hS8 : ∀ i, i = X → ∃ T', TyAt wr i T' ∧ 5 ≠ T' := fun i hi => ⟨_, hi ▸ hX, by decide⟩
  exact ⟨h.dec.keep hk hp (h.gl.imp id (fun h => by omega)), hk.row h.hd hS8, ownsRow_same h.row (fun b hb => hk.block b (h.row.lt b hb).2 (hr b hb)), fun e he => ⟨hk.row (h.ents e he).1 hS8, (h.ents e he).2⟩, below_fp h.bel hk (fun i hi => by omega), h.own, h.fr, h.gl⟩
/-- An entry more. -/
theorem RI.grow {E : EV} {n K c c2 : Nat} {ao a2 : Option Addr} {ws : World} (h : RI w wr p g Z e ho hc H es (.slice ao n c)) (hE : wr.ownsRow 0 5 1 (.slice E.ao E.b.length E.c) E.b.length (E.b.map (Value.int .u8))) (hI : InB E.b) (hb : Below wr.heap.size wr ws)
    (hown : w'.ownsRow 0 34 2 (.slice a2 (n + 1) c2) (n + 1) (es.flatMap EV.cells ++ E.cells)) (hn : es.length = n) (hgrow : ws.grownBy w' (Value.slice ao n c).ownBlock) (hat : ∀ b, (Value.slice a2 (n + 1) c2).ownBlock = some b → (Value.slice ao n c).ownBlock = some b ∨ wr.heap.size ≤ b) :
    RI w w' p g Z e ho hc H (es ++ [E]) (.slice a2 (n + 1) c2) := by
  have hs := h.below hb
  have hk : Keeps (fun i => (Value.slice ao n c).ownBlock = some i) ws w' := (Keeps.refl _ _).grown hgrow (fun i hi => Or.inl hi)
  have hS : ∀ i, (Value.slice ao n c).ownBlock = some i → TyAt ws i 34 := fun i hi => by
    obtain ⟨cur, h⟩ := row_ty hs.row hi
    exact ⟨_, _, h⟩
  have hS8 : ∀ i, (Value.slice ao n c).ownBlock = some i → ∃ T', TyAt ws i T' ∧ 5 ≠ T' := fun i hi => ⟨_, hS i hi, by decide⟩
  refine ⟨?_, hk.row hs.hd hS8, ?_, ?_, below_fp hs.bel hk (fun i hi => hs.fr i hi), h.own, ?_, h.gl⟩
  · refine hs.dec.keep hk (fun hi => ?_) (h.gl.imp id (fun hg hi => by have := h.fr g hi; omega))
    obtain ⟨cs, f, h3⟩ := hs.dec.ty
    exact (hS p hi).ne h3 (by decide) rfl
  · rw [List.flatMap_append, List.length_append, hn]
    simp only [List.flatMap_cons, List.flatMap_nil, List.append_nil]
    exact hown
  · intro x hx
    rcases List.mem_append.1 hx with h1 | h1
    · exact ⟨hk.row (hs.ents x h1).1 hS8, (hs.ents x h1).2⟩
    · simp only [List.mem_singleton] at h1
      rw [h1]
      exact ⟨hk.row (ownsRow_same hE (fun b hbb => hb.block b (hE.lt b hbb).2)) hS8, hI⟩
  · intro b hbb
    rcases hat b hbb with h1 | h1
    · exact h.fr b h1
    · have := h.bel.size
      omega
end
/-- What the reference's Import hands back. -/
def RImpPost (w : World) (r : List ER × Int) (e : Ending) (w' : World) : Prop := ∃ ao c es, e = .returned (.tuple #[.slice ao r.1.length c, .int .i64 r.2]) ∧ Below w.heap.size w w' ∧ ersL es = r.1 ∧ EntAt w' ao es ∧ r.1.length ≤ c ∧ c ≤ maxLen
theorem rimp_none {w wr : World} {k : Int} {r : List ER × Int} (hk : Below w.heap.size w wr) (hr : r = ([], k)) : RImpPost w r (.returned (.tuple #[.slice none 0 0, .int .i64 k])) wr :=
  ⟨none, 0, [], by rw [hr]; rfl, hk, by rw [hr]; rfl, ⟨Or.inl rfl, fun e he => by cases he⟩, by rw [hr]; exact Nat.le_refl _, by unfold maxLen; omega⟩
theorem ents_at {w : World} {es : List EV} {ao : Option Addr} {n c : Nat} (hr : w.ownsRow 0 34 2 (.slice ao n c) n (es.flatMap EV.cells)) (he : ∀ e ∈ es, w.ownsRow 0 5 1 (.slice e.ao e.b.length e.c) e.b.length (e.b.map (Value.int .u8)) ∧ InB e.b) (hn : es.length = n) : EntAt w ao es := by
  refine ⟨?_, fun e h => ⟨(owns_at (he e h).1).2.1, (he e h).2, (owns_at (he e h).1).2.2.1, (owns_at (he e h).1).2.2.2⟩⟩
  by_cases h0 : n = 0
  · exact Or.inl (List.eq_nil_of_length_eq_zero (by omega))
  · obtain ⟨b, rfl, hc⟩ := own_cell hr (by omega)
    refine Or.inr ⟨b, 0, rfl, fun i hi => ⟨?_, ?_⟩⟩
    · rw [Nat.zero_add]
      exact hc (i * 2 + 0) _ (by rw [flat_get EV.cells 2 (fun _ => rfl) es i hi 0 (by omega)]; rfl)
    · rw [Nat.zero_add]
      exact hc (i * 2 + 1) _ (by rw [flat_get EV.cells 2 (fun _ => rfl) es i hi 1 (by omega)]; rfl)
theorem decNum_gl {Z : List Int} {e s : Int} {P : Prop} (h : Z = [] ∨ P) : (decNum Z e s).2.1 = [] ∨ P := by
  rcases h with h | h
  · refine Or.inl ?_
    rw [h]; unfold decNum
    split
    · split <;> simp
    · rfl
  · exact Or.inr h
theorem decRaw_gl {Z : List Int} {e s : Int} {P : Prop} (h : Z = [] ∨ P) : (decRaw Z e s).2.1 = [] ∨ P := by
  rcases h with h | h
  · refine Or.inl ?_
    rw [h]; unfold decRaw
    split
    · split <;> simp
    · rfl
  · exact Or.inr h
theorem decRaw_inB {Z : List Int} {e s : Int} (h : InB Z) : InB (decRaw Z e s).1 := by
  unfold decRaw
  split
  · split
    · exact fun z hz => by cases hz
    · exact inB_take h _
  · exact fun z hz => by cases hz

set_option maxRecDepth 100000 in
set_option maxHeartbeats 4000000 in
theorem rimport_any (bo : Option Addr) (zs : List Int) (m d : Nat) (w : World) (hm : zs.length = m) (hz : IntsAt .u8 w bo zs) (hB : InB zs) (hc : m ≤ d) (hcm : d ≤ maxLen) (hl : m ≤ 1000000) :
    Calls Try.prog 37 #[.slice bo m d] w fun e w' => RImpPost w (importF zs) e w' := by
  have HM := Lib.hid hm
  have HB := Lib.hid hB
  obtain ⟨w1, hw1⟩ : ∃ w1, w1 = w.alloc (.cells #[.slice bo m d, .int .i64 0] 127) := ⟨_, rfl⟩
  have hb1 : Below w.heap.size w w1 := by rw [hw1]; exact (Below.refl _ _).alloc (Nat.le_refl _) _
  obtain ⟨g, hg1, hg2⟩ := dec_box2 127 hm hz hB hc hcm (by omega)
  rw [← hw1] at hg1
  have HX1 : Hid (RI w w1 w.heap.size g zs 0 none 0 [] [] (.slice none 0 0)) := Lib.hid ⟨hg1, World.ownsRow_nil _ _ _ _, World.ownsRow_nil _ _ _ _, (fun e he => by cases he), hb1, Nat.le_refl _, (fun g (hg : (Value.slice none 0 0).ownBlock = some g) => by cases hg), hg2⟩
  have HW1 := Lib.hid hw1
  have HRA := Lib.hid (refdec_raw w.heap.size g zs 0 32 w1 hg1)
  have HF := Lib.hid (rfirst zs hB)
  have HHI : Hid (InB (decRaw zs 0 32).1) := Lib.hid (decRaw_inB hB)
  have HGL := Lib.hid (decRaw_gl (e := 0) (s := 32) HX1.out.gl)
  clear hm hz hB hc hcm hl hw1 hb1 hg1 hg2
  go_enter Try.func37, Try.ntmps37
  go_upto_region 2 with fail
  rw [← HW1.out]
  go_wp2_with fail
  refine HRA.out.mono ?_
  rintro e w2 ⟨hd2, ho, hc, rfl, hr2, hf2⟩
  have hx2 := HX1.out.read hd2 HGL.out
  have HX2 : Hid (RI w w2 w.heap.size g (decRaw zs 0 32).2.1 (decRaw zs 0 32).2.2 ho hc (decRaw zs 0 32).1 [] (.slice none 0 0)) := Lib.hid ⟨hx2.dec, hr2, hx2.row, hx2.ents, hx2.bel, hx2.own, hx2.fr, hx2.gl⟩
  clear hd2 hr2 hf2 hx2 HRA HGL
  generalize hHd : decRaw zs 0 32 = HD at *
  obtain ⟨H, Z1, e1⟩ := HD
  dsimp only at HX2 HHI HF
  try dsimp only
  have HHD := Lib.hid hHd
  clear hHd
  have HNU := Lib.hid (refdec_num w.heap.size g Z1 e1 2 w2 HX2.out.dec)
  have HGL := Lib.hid (decNum_gl (e := e1) (s := 2) HX2.out.gl)
  go_wp2_with fail
  refine HNU.out.mono ?_
  rintro e w3 ⟨rfl, hd3⟩
  have HX3 := Lib.hid (HX2.out.read hd3 HGL.out)
  clear hd3 HNU HGL HX2
  obtain ⟨N0, HN, HN0, HST⟩ : ∃ N0 : Nat, Hid ((decNum Z1 e1 2).1 = (N0 : Int)) ∧ Hid (N0 ≤ 65535) ∧ Hid (((decNum Z1 e1 2).2.2 = 0 ∧ ¬ zs.length < 34 ∧ H = zs.take 32 ∧ (hdF zs 32 2).toNat = N0 ∧ (decNum Z1 e1 2).2.1 = zs.drop 34) ∨ ((decNum Z1 e1 2).2.2 ≠ 0 ∧ importF zs = ([], 2))) := by
    by_cases h34 : zs.length < 34
    · obtain ⟨h1, h2⟩ := HF.out.1 h34
      exact ⟨0, Lib.hid h1, Lib.hid (by omega), Lib.hid (Or.inr ⟨h2, by unfold importF; rw [if_pos h34]⟩)⟩
    · obtain ⟨h1, h2⟩ := HF.out.2 h34
      simp only [Prod.mk.injEq] at h1
      obtain ⟨h3, h4, h5⟩ := h1
      have hin := hdF_in HB.out 32 2 (by omega)
      rw [show (256 : Int) ^ 2 = 65536 by decide] at hin
      rw [h4, h5, h2]
      exact ⟨(hdF zs 32 2).toNat, Lib.hid (by dsimp only; omega), Lib.hid (by omega), Lib.hid (Or.inl ⟨rfl, h34, h3, rfl, rfl⟩)⟩
  rw [HN.out]
  clear HF HN
  generalize (decNum Z1 e1 2).2.1 = Z2 at *
  generalize (decNum Z1 e1 2).2.2 = e2 at *
  generalize hp : w.heap.size = p at HX1 HX3
  have HP := Lib.hid hp
  clear hp
  go_wp2_with fail
  go_loopw [7, 8] (fun s i wr => ∃ (k : Nat) (es : List EV) (Z : List Int) (e : Int), i = .int .i64 (k : Int) ∧ k ≤ N0 ∧ RI w wr p g Z e ho hc H es s ∧ es.length ≤ k ∧ ((e = 0 ∧ ¬ zs.length < 34 ∧ H = zs.take 32 ∧ (hdF zs 32 2).toNat = N0 ∧ (∀ x ∈ es, x.er.ok) ∧ parseC N0 (zs.drop 34) = (parseC (N0 - k) Z).map (fun r => (ersL es ++ r.1, r.2))) ∨ (e ≠ 0 ∧ importF zs = ([], 2)))) (fun _ i _ => N0 - (intOf i).toNat)
  case atStart =>
    refine ⟨0, [], Z2, e2, rfl, by omega, HX3.out, Nat.le_refl _, ?_⟩
    rcases HST.out with ⟨h1, h2, h3, h4, h5⟩ | h
    · exact Or.inl ⟨h1, h2, h3, h4, (fun x hx => by cases hx), by rw [h5, Nat.sub_zero]; cases parseC N0 (zs.drop 34) <;> simp [ersL]⟩
    · exact Or.inr h
  case round =>
    obtain ⟨k, es, Z, e, rfl, hk, hx, hel, hst⟩ := hrel
    have HX := Lib.hid hx
    have HK := Lib.hid hk
    have HEL := Lib.hid hel
    obtain ⟨zo, zc, hd, _⟩ := hx.dec
    have d0 : wr.cell? ⟨p, 0, none⟩ = some (.slice zo Z.length zc) := blk_cell hd 0
    have d1 : wr.cell? ⟨p, 1, none⟩ = some (.int .i64 e) := blk_cell hd 1
    clear hx hel hd
    rcases hst with ⟨he, h34, hH, hN, hok, hpe⟩ | ⟨he, him⟩
    case inr =>
      have HIM := Lib.hid him
      have heb : (e == 0) = false := by simp [he]
      have HEN := Lib.hid (refdec_end p g Z e wr HX.out.dec)
      rw [show decEnd Z e = e by unfold decEnd; rw [if_neg he]] at HEN
      have heb2 : (e != 0) = true := by simp [he]
      clear he him
      by_cases hkn : (k : Int) < (N0 : Int)
      · clear hk
        go_wp2_with fail
        refine HEN.out.mono ?_
        rintro en w9 ⟨rfl, rfl⟩
        go_wp2
        go_ret2
        exact rimp_none HX.out.bel HIM.out
      · clear hk
        go_wp2_with fail
        refine HEN.out.mono ?_
        rintro en w9 ⟨rfl, rfl⟩
        go_wp2
        go_ret2
        exact rimp_none HX.out.bel HIM.out
    case inl =>
    subst he
    have HIH : Hid (¬ zs.length < 34 ∧ H = zs.take 32 ∧ (hdF zs 32 2).toNat = N0) := Lib.hid ⟨h34, hH, hN⟩
    have HOK := Lib.hid hok
    have HPE := Lib.hid hpe
    clear h34 hH hN hok hpe
    by_cases hkn : (k : Int) < (N0 : Int)
    · obtain ⟨so, sc0, hv, _, _⟩ := own_shape HX.out.row
      subst hv
      have HSTP := Lib.hid (rstep Z HX.out.dec.inB (N0 - k - 1))
      rw [show N0 - k = N0 - k - 1 + 1 by omega] at HPE
      have HK1 : Hid (N0 - (k + 1) = N0 - k - 1 ∧ k + 1 ≤ N0) := Lib.hid (by omega)
      have HN1 := Lib.hid (refdec_num p g Z 0 1 wr HX.out.dec)
      have HG1 := Lib.hid (decNum_gl (e := 0) (s := 1) HX.out.gl)
      have HBI : Hid (∀ n, InB (decRaw (decNum (decNum Z 0 1).2.1 (decNum Z 0 1).2.2 4).2.1 (decNum (decNum Z 0 1).2.1 (decNum Z 0 1).2.2 4).2.2 n).1) := Lib.hid (fun n => decRaw_inB (by
        have hin : ∀ (Z : List Int) (e s : Int), InB Z → InB (decNum Z e s).2.1 := fun Z e s h => by
          unfold decNum
          split
          · split
            · exact inB_drop h _
            · exact h
          · exact h
        exact hin _ _ _ (hin _ _ _ HX.out.dec.inB)))
      clear hk
      go_wp2_with fail
      refine HN1.out.mono ?_
      rintro en w1 ⟨rfl, hd1⟩
      have HX1 := Lib.hid (HX.out.read hd1 HG1.out)
      clear hd1 HN1 HG1
      generalize (decNum Z 0 1).1 = k0 at *
      generalize (decNum Z 0 1).2.1 = Y1 at *
      generalize (decNum Z 0 1).2.2 = e1 at *
      obtain ⟨w2, hw2⟩ : ∃ w2, w2 = w1.alloc (.cells #[.int .i64 k0, .slice none 0 0] 34) := ⟨_, rfl⟩
      have hb2 : Below w1.heap.size w1 w2 := by rw [hw2]; exact (Below.refl _ _).alloc (Nat.le_refl _) _
      have HY2 : Hid (EBox w2 w1.heap.size k0 (.slice none 0 0)) := Lib.hid (by rw [hw2]; exact EBox.new _ _ _)
      have HX2 := Lib.hid (HX1.out.below hb2)
      have HXB : Hid (p < w1.heap.size ∧ w.heap.size ≤ w1.heap.size) := Lib.hid ⟨HX1.out.dec.lt, HX1.out.bel.size⟩
      have HRB : Hid (∀ b, (Value.slice so es.length sc0).ownBlock = some b → b < w1.heap.size) := Lib.hid (fun b h => (HX1.out.row.lt b h).2)
      have HW2 := Lib.hid hw2
      clear hb2 hw2 HX1 d0 d1
      go_upto_region 9 with fail
      rw [← HW2.out]
      generalize w1.heap.size = X at *
      have HN2 := Lib.hid (refdec_num p g Y1 e1 4 w2 HX2.out.dec)
      have HG2 := Lib.hid (decNum_gl (e := e1) (s := 4) HX2.out.gl)
      go_wp2_with fail
      refine HN2.out.mono ?_
      rintro en w3 ⟨rfl, hd3⟩
      have HY3 := Lib.hid (HY2.out.keep hd3.2 (by have := HXB.out; omega))
      have HX3 := Lib.hid (HX2.out.read hd3 HG2.out)
      clear hd3 HN2 HG2 HX2 HY2
      generalize (decNum Y1 e1 4).1 = K at *
      generalize (decNum Y1 e1 4).2.1 = Y2 at *
      generalize (decNum Y1 e1 4).2.2 = e2 at *
      by_cases hbig : (60000 : Int) < K
      · have HR : Hid (importF zs = ([], 2)) := Lib.hid (import_none HIH.out.1 (by rw [HIH.out.2.2, HPE.out, HSTP.out.wide hbig]; rfl))
        go_wp2
        go_ret2
        exact rimp_none HX3.out.bel HR.out
      have HFI := Lib.hid (HSTP.out.fine hbig)
      have HN3 := Lib.hid (refdec_raw p g Y2 e2 K w3 HX3.out.dec)
      have HG3 := Lib.hid (decRaw_gl (e := e2) (s := K) HX3.out.gl)
      have HBK := Lib.hid (HBI.out K)
      clear HSTP HBI
      obtain ⟨y0, y1⟩ := HY3.out.cells
      have f1 : w3.frozen? ⟨X, 1, none⟩ = false := blk_frozen HY3.out 1
      go_upto_region 12 with fail
      clear hbig
      go_wp2_with fail
      refine HN3.out.mono ?_
      rintro en w4 ⟨hd4, ba, bc, rfl, hr4, hf4⟩
      have HY4 := Lib.hid (HY3.out.keep hd4.2 (by have := HXB.out; omega))
      have HX4 := Lib.hid (HX3.out.read hd4 HG3.out)
      have HO4 := Lib.hid hr4
      have HF4 : Hid (∀ b, (Value.slice ba (decRaw Y2 e2 K).1.length bc).ownBlock = some b → X < b) := Lib.hid (fun b hb => Nat.lt_of_lt_of_le HY3.out.lt (hf4 b hb))
      clear hd4 hr4 hf4 HN3 HG3 HX3 HY3 y0 y1 f1
      generalize (decRaw Y2 e2 K).1 = B at *
      generalize (decRaw Y2 e2 K).2.1 = Y3 at *
      generalize (decRaw Y2 e2 K).2.2 = e3 at *
      obtain ⟨q, hq⟩ : ∃ q, q = B.length := ⟨_, rfl⟩
      rw [← hq] at HO4 HF4
      rw [← hq]
      have HQ : Hid (B.length = q) := Lib.hid hq.symm
      clear hq
      obtain ⟨y0, y1⟩ := HY4.out.cells
      have f1 : w4.frozen? ⟨X, 1, none⟩ = false := blk_frozen HY4.out 1
      go_upto_region 13 with fail
      obtain ⟨w5, hw5⟩ : ∃ w5, w5 = w4.setCell ⟨X, 1, none⟩ (.slice ba q bc) := ⟨_, rfl⟩
      rw [← hw5]
      have hk5 : Keeps (fun i => i = X) w4 w5 := by rw [hw5]; exact (Keeps.refl (fun i => i = X) w4).setCell (p := ⟨X, 1, none⟩) (Or.inl rfl) _
      have HY5 : Hid (EBox w5 X k0 (.slice ba q bc)) := Lib.hid (by rw [hw5]; have h := blk_set HY4.out 1 (.slice ba q bc); simpa [EBox] using h)
      have HX5 := Lib.hid (HX4.out.box hk5 ⟨_, _, HY4.out⟩ (fun b hb => by have := HRB.out b hb; omega) (by have := HXB.out; omega) HXB.out.2)
      have HO5 := Lib.hid (ownsRow_same HO4.out (fun b hb => hk5.block b (HO4.out.lt b hb).2 (by have := HF4.out b hb; omega)))
      clear hk5 hw5 y0 y1 f1 HO4 HX4 HY4
      obtain ⟨y0, y1⟩ := HY5.out.cells
      obtain ⟨i0, hi0, hz0, hz1, hz2⟩ := info_parts Try_infoE
      have HPA : Hid ((w5.alloc (.cells #[.int .i64 k0, .slice ba q bc] 34)).ownsRow 0 34 2 (.slice so es.length sc0) es.length (es.flatMap EV.cells)) := Lib.hid (ownsRow_same HX5.out.row (fun g hg => Below.heap_alloc _ _ _ (by simpa using (HX5.out.row.lt g hg).2)))
      have HNW : Hid (∀ ad, some (⟨w5.heap.size, 0, none⟩ : Addr) = some ad → ∀ j u, ([.int .i64 k0, .slice ba q bc] : List Value)[j]? = some u → (w5.alloc (.cells #[.int .i64 k0, .slice ba q bc] 34)).cell? (ad.add j) = some u) := Lib.hid (fun ad had => by cases had; exact World.news_of_block (heap_alloc_new _ _))
      have HEL2 : Hid (es.length ≤ 65535) := Lib.hid (by have := HEL.out; have := HK.out; have := HN0.out; omega)
      go_wp2_with (at_builtin; refine wpList_append_any rfl _ _ 22 rfl 34 i0 _ 2 32 Try.underlying22 hi0 hz0 hz1 hz2 rfl (by decide) (.slice so es.length sc0) es.length _ rfl HPA.out (some ⟨w5.heap.size, 0, none⟩) 1 1 [.int .i64 k0, .slice ba q bc] rfl ?c1 ?c2 ?c3 ?c4 ?c5 ?c6 ?_)
      case c1 => rfl
      case c2 => intro e; cases e
      case c3 => exact HNW.out
      case c4 => intro u hu; simp at hu; rcases hu with e | e <;> rw [e] <;> rfl
      case c5 => have := HEL2.out; unfold maxLen; omega
      case c6 => have := HEL2.out; omega
      intro ao9 cap9 w9 hown hgrow hat hnn
      have HX9 : Hid (RI w w9 p g Y3 e3 ho hc H (es ++ [⟨k0, ba, B, bc⟩]) (.slice ao9 (es.length + 1) cap9)) := Lib.hid (HX5.out.grow (E := ⟨k0, ba, B, bc⟩) (K := 0) (by dsimp only; rw [HQ.out]; exact HO5.out) HBK.out ((Below.refl _ _).alloc (Nat.le_refl _) _) (by unfold EV.cells; dsimp only; rw [HQ.out]; exact hown) rfl hgrow (fun b hb => (hat b hb).imp id (fun e => by omega)))
      clear hown hgrow hat hnn y0 y1
      have HW9 : Hid (wrap64 ((k : Int) + 1) = ((k + 1 : Nat) : Int)) := Lib.hid (by have := HN0.out; have := HK.out; unfold wrap64; omega)
      have HML : Hid (N0 - (intOf (.int .i64 ((k + 1 : Nat) : Int))).toNat < N0 - (intOf (.int .i64 (k : Int))).toNat) := Lib.hid (by simp only [intOf]; have := HK1.out; omega)
      go_wp2
      rw [HW9.out]
      refine ⟨⟨k + 1, es ++ [⟨k0, ba, B, bc⟩], Y3, e3, rfl, HK1.out.2, HX9.out, by rw [List.length_append]; have := HEL.out; simp only [List.length_cons, List.length_nil]; omega, ?_⟩, HML.out⟩
      rcases HFI.out with ⟨h1, h2, h3, h4⟩ | ⟨h1, h2⟩
      · refine Or.inl ⟨h1, HIH.out.1, HIH.out.2.1, HIH.out.2.2, ?_, ?_⟩
        · intro x hx
          rcases List.mem_append.1 hx with h | h
          · exact HOK.out x h
          · simp only [List.mem_singleton] at h
            rw [h]
            exact ⟨h3, h4⟩
        · rw [HPE.out, h2, HK1.out.1]
          have he : ersL (es ++ [⟨k0, ba, B, bc⟩]) = ersL es ++ [⟨k0, B⟩] := by simp [ersL, EV.er]
          rw [he]
          cases parseC (N0 - k - 1) Y3 <;> simp
      · exact Or.inr ⟨h1, import_none HIH.out.1 (by rw [HIH.out.2.2, HPE.out, h2]; rfl)⟩
    · obtain rfl : k = N0 := by omega
      have HPS : Hid (importF zs = if Z = [] then (if headC (ersL es) = zs.take 32 then (ersL es, 0) else ([], 17)) else ([], 2)) := Lib.hid (import_some HIH.out.1 (by rw [HIH.out.2.2, HPE.out, Nat.sub_self]; simp [parseC]))
      have HEN := Lib.hid (refdec_end p g Z 0 wr HX.out.dec)
      by_cases hZ : Z = []
      case neg =>
        rw [show decEnd Z 0 = 2 by unfold decEnd; rw [if_pos rfl, if_neg (fun h => hZ (List.eq_nil_of_length_eq_zero h))]] at HEN
        have HR : Hid (importF zs = ([], 2)) := Lib.hid (by rw [HPS.out, if_neg hZ])
        clear hZ
        go_wp2_with fail
        refine HEN.out.mono ?_
        rintro en w9 ⟨rfl, rfl⟩
        go_wp2
        go_ret2
        exact rimp_none HX.out.bel HR.out
      rw [show decEnd Z 0 = 0 by rw [hZ]; rfl] at HEN
      rw [if_pos hZ] at HPS
      clear hZ
      obtain ⟨so, sc, hv, hsc, hsm⟩ := own_shape HX.out.row
      subst hv
      have HSC := Lib.hid (And.intro hsc hsm)
      have HEA := Lib.hid (ents_at HX.out.row HX.out.ents rfl)
      clear hsc hsm
      have HHD := Lib.hid (rheadC_any so es es.length sc wr rfl HEA.out HOK.out HSC.out.1 HSC.out.2 (by have := HEL.out; have := HN0.out; omega))
      have HHL := Lib.hid (headC_len (ersL es))
      go_wp2_with fail
      refine HEN.out.mono ?_
      rintro en w9 ⟨rfl, rfl⟩
      go_wp2_with fail
      refine HHD.out.mono ?_
      rintro en w9 ⟨a9, c9, rfl, hr9⟩
      rw [HHL.out] at hr9 ⊢
      have HX9 := Lib.hid (HX.out.below hr9.2.1)
      have HEA9 := Lib.hid (HEA.out.below hr9.2.1)
      have HI9 : Hid (IntsAt .u8 w9 a9 (headC (ersL es))) := Lib.hid (by have h := hr9.1; rw [HHL.out] at h; exact (owns_at h).2.1)
      clear hr9 HHD HEN HEA
      have HBE := Lib.hid (bytes_eq ho a9 H (headC (ersL es)) H.length 32 hc c9 w9 rfl HHL.out (owns_at HX9.out.hd).2.1 HI9.out HHI.out (headC_inB _))
      have HEQ : Hid (eqB H (headC (ersL es)) = true ↔ headC (ersL es) = zs.take 32) := Lib.hid (by rw [← HIH.out.2.1]; unfold eqB; rw [decide_eq_true_iff]; exact ⟨Eq.symm, Eq.symm⟩)
      generalize eqB H (headC (ersL es)) = B at *
      go_wp2_with fail
      refine HBE.out.mono ?_
      rintro en wz ⟨rfl, rfl⟩
      cases B with
      | false =>
        have HR : Hid (importF zs = ([], 17)) := Lib.hid (by rw [HPS.out, if_neg (fun e => by have := HEQ.out.2 e; cases this)])
        go_wp2
        go_ret2
        exact rimp_none HX9.out.bel HR.out
      | true =>
        have HR : Hid (importF zs = (ersL es, 0)) := Lib.hid (by rw [HPS.out, if_pos (HEQ.out.1 rfl)])
        go_wp2
        go_ret2
        rw [HR.out]
        exact ⟨so, sc, es, by rw [ersL_len]; rfl, HX9.out.bel, rfl, HEA9.out, by rw [ersL_len]; exact HSC.out.1, HSC.out.2⟩

end Go.Proofs.Ytbhoakohpfdeoaa
