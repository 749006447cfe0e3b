/- What the chain's laws share. -/
import Derived.Test.YtbhoakohpfdeoaaChE
import Derived.Test.YtbhoakohpfdeoaaChD
import Derived.Test.YtbhoakohpfdeoaaChF
namespace Go.Proofs.Ytbhoakohpfdeoaa
open Go.RowKit
set_option linter.unusedVariables false
set_option linter.unusedSimpArgs false

theorem entAt_off {w : World} {ao : Option Addr} {es : List EV} (h : EntAt w ao es) (b off : Nat) (ha : ao = some ⟨b, off, none⟩) (i : Nat) (hi : i < es.length) : w.cell? ⟨b, off + i * 2, none⟩ = some (.int .i64 es[i].k) ∧ w.cell? ⟨b, off + i * 2 + 1, none⟩ = some (.slice es[i].ao es[i].b.length es[i].c) := by
  subst ha; exact h.off i hi
theorem few22_facts {es : List EV} (h : fewB (es.map (fun e => e.b.length)) 100 100000 = true) : es.length ≤ 100 ∧ (bodyC (ersL es)).length ≤ 100500 := by
  obtain ⟨h1, h2⟩ := few_facts _ _ _ h
  rw [List.length_map] at h1
  refine ⟨h1, ?_⟩
  rw [bodyC_len, ersL_len]
  have : sumC (ersL es) = (es.map (fun e => e.b.length)).sum := by unfold sumC ersL; rw [List.map_map]; rfl
  omega
theorem St.two {W w w' : World} {tb p : Nat} (h : St W tb w) (hp : W.heap.size ≤ p) (hk : Keeps (fun i => i = tb ∨ i = p) w w') (ht : TabOk w' tb) : St W tb w' :=
  ⟨ht, below_fp h.bel hk (fun i hi => by have := h.own; omega), h.own⟩
theorem two_tyE {w : World} {tb p : Nat} {l : List ER} (ht : TabOk w tb) (hc : CI tb w p l) : ∀ i, (i = tb ∨ i = p) → ∃ T', TyAt w i T' ∧ 34 ≠ T' := fun i hi => by
  rcases hi with e | e
  · exact ⟨_, e ▸ ht.ty, by decide⟩
  · exact ⟨_, e ▸ hc.ty, by decide⟩
/-- The entries that are fine. -/
def goodE (e : EV) : Bool := badF e.er == 0
theorem good_take (es : List EV) (k : Nat) (h : k < es.length) : (es.take (k + 1)).filter goodE = (es.take k).filter goodE ++ (if badF es[k].er = 0 then [es[k]] else []) := by
  rw [List.take_add_one, List.getElem?_eq_getElem h, List.filter_append]
  congr 1
  show List.filter goodE [es[k]] = _
  unfold goodE
  by_cases hb : badF es[k].er = 0
  · rw [if_pos hb]; simp [hb]
  · rw [if_neg hb]; simp [hb]
/-- Entries of another's, their row of one's own. -/
structure DI2 (w : World) (ds : List EV) (v : Value) : Prop where
  row : w.ownsRow 0 34 2 v ds.length (ds.flatMap EV.cells)
theorem own_entAt {w : World} {ds : List EV} {ao : Option Addr} {n c : Nat} (hr : w.ownsRow 0 34 2 (.slice ao n c) n (ds.flatMap EV.cells)) (he : ∀ e ∈ ds, e.okAt w) (hn : ds.length = n) : EntAt w ao ds := by
  refine ⟨?_, he⟩
  by_cases h0 : n = 0
  · exact Or.inl (List.eq_nil_of_length_eq_zero (by omega))
  · obtain ⟨b, rfl, hc⟩ := own_cell hr (by omega)
    refine Or.inr ⟨b, 0, rfl, fun i hi => ⟨?_, ?_⟩⟩
    · rw [Nat.zero_add]
      exact hc (i * 2 + 0) _ (by rw [flat_get EV.cells 2 (fun _ => rfl) ds i hi 0 (by omega)]; rfl)
    · rw [Nat.zero_add]
      exact hc (i * 2 + 1) _ (by rw [flat_get EV.cells 2 (fun _ => rfl) ds i hi 1 (by omega)]; rfl)
theorem good_ersL (es : List EV) (k : Nat) (h : k < es.length) : ersL ((es.take (k + 1)).filter goodE) = (if badF es[k].er = 0 then ersL ((es.take k).filter goodE) ++ [es[k].er] else ersL ((es.take k).filter goodE)) := by
  rw [good_take es k h]
  unfold ersL
  rw [List.map_append]
  split <;> simp
theorem parse_len : ∀ (n : Nat) (zs : List Int) (l : List ER) (r : List Int), parseC n zs = some (l, r) → l.length = n
  | 0, zs, l, r, h => by
    rw [parseC] at h
    cases h; rfl
  | n + 1, zs, l, r, h => by
    rw [parseC] at h
    split at h
    · cases h
    · split at h
      · cases h
      · split at h
        · cases h
        · rename_i l' r' he
          cases h
          rw [List.length_cons, parse_len n _ _ _ (by assumption)]
theorem import_len {zs : List Int} (hB : InB zs) : (importF zs).1.length ≤ 65535 := by
  unfold importF
  split
  · simp
  · rename_i h34
    have hin := hdF_in hB 32 2 (by omega)
    rw [show (256 : Int) ^ 2 = 65536 by decide] at hin
    split
    · simp
    · rename_i l r he
      have := parse_len _ _ _ _ he
      split
      · split
        · dsimp only; omega
        · simp
      · simp
theorem sameC_self (l : List ER) : sameC l l = true := by
  rw [sameC_eq, decide_eq_true rfl, Bool.true_and]
  rw [List.all_eq_true]
  intro x hx
  have : x.1 = x.2 := by
    obtain ⟨i, hi, rfl⟩ := List.getElem_of_mem hx
    simp
  unfold eqE
  rw [this]
  simp [eqB]


theorem two_ty {w : World} {tb p : Nat} {l : List ER} (ht : TabOk w tb) (hc : CI tb w p l) : ∀ i, (i = tb ∨ i = p) → ∃ T', TyAt w i T' ∧ 5 ≠ T' := fun i hi => by
  rcases hi with e | e
  · exact ⟨_, e ▸ ht.ty, by decide⟩
  · exact ⟨_, e ▸ hc.ty, by decide⟩
theorem exportF_inB {l : List ER} (h : ∀ e ∈ l, InB e.b) : InB (exportF l).1 := by
  unfold exportF
  split
  · split
    · exact fun z hz => by cases hz
    · exact inB_app (inB_app (headC_inB _) (putB_in _ _)) (bodyC_inB h)
  · exact fun z hz => by cases hz

end Go.Proofs.Ytbhoakohpfdeoaa
