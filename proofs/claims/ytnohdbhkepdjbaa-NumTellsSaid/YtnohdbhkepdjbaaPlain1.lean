/- Plain facts on checked sums. -/
import Derived.Test.YtnohdbhkepdjbaaLaw1
namespace Go.Proofs.Ytnohdbhkepdjbaa
open Go.RowKit
set_option linter.unusedVariables false

def goodB (s : Int) (l : List Int) : Bool := l.all amtB && decide (s + l.sum ≤ MA)
theorem sum_nonneg (l : List Int) (h : l.all amtB = true) : 0 ≤ l.sum := by
  induction l with
  | nil => simp
  | cons z l ih =>
    simp only [List.all_cons, Bool.and_eq_true] at h
    have := ih h.2
    have := (amt_iff z).1 h.1
    simp; omega
theorem foldl_sum (l : List Int) (s : Int) (h : amtB s = true) : l.foldl sumStep (s, 0) = if goodB s l = true then (s + l.sum, 0) else (0, 1) := by
  induction l generalizing s with
  | nil =>
    have := (amt_iff s).1 h
    simp [goodB, this.2]
  | cons z l ih =>
    rw [List.foldl_cons]
    have hs := (amt_iff s).1 h
    by_cases hz : addOK s z = true
    · have e : sumStep (s, 0) z = (s + z, 0) := by simp [sumStep, (addVE s z hz).1, (addVE s z hz).2]
      have hz' := hz
      simp only [addOK, bothB, Bool.and_eq_true] at hz'
      have g : goodB s (z :: l) = goodB (s + z) l := by rw [Bool.eq_iff_iff]; simp [goodB, hz'.1.2, Int.add_assoc]; exact fun _ => decide_eq_true_iff
      rw [e, ih (s + z) hz'.2, g, List.sum_cons, Int.add_assoc]
    · have hz0 : addOK s z = false := by simpa using hz
      have e : sumStep (s, 0) z = (0, 1) := by simp [sumStep, (addVE' s z hz0).1, (addVE' s z hz0).2]
      rw [e, foldl_stuck _ _ (by simp), if_neg]
      intro hg
      simp only [goodB, List.all_cons, Bool.and_eq_true] at hg
      have hg2 := of_decide_eq_true hg.2
      rw [List.sum_cons] at hg2
      have := sum_nonneg l hg.1.2
      have hzz := (amt_iff z).1 hg.1.1
      apply hz
      simp only [addOK, bothB, Bool.and_eq_true]
      exact ⟨⟨h, hg.1.1⟩, (amt_iff _).2 ⟨by omega, by omega⟩⟩
theorem sumF_eq (l : List Int) : sumF l = if goodB 0 l = true then (l.sum, 0) else (0, 1) := by
  have := foldl_sum l 0 (by decide)
  simpa [sumF] using this
theorem sumVE (l : List Int) (h : goodB 0 l = true) : sumV l = l.sum ∧ sumE l = 0 := by simp [sumV, sumE, sumF_eq, h]
theorem sumVE' (l : List Int) (h : goodB 0 l = false) : sumV l = 0 ∧ sumE l = 1 := by simp [sumV, sumE, sumF_eq, h]
theorem good_iff (l : List Int) : goodB 0 l = true ↔ l.all amtB = true ∧ l.sum ≤ MA := by simp [goodB]
theorem good_parts (l r : List Int) : goodB 0 (l ++ r) = true ↔ goodB 0 l = true ∧ goodB 0 r = true ∧ addOK l.sum r.sum = true := by
  simp only [good_iff, List.all_append, Bool.and_eq_true, List.sum_append, addOK, bothB, amt_iff]
  constructor
  · rintro ⟨⟨h1, h2⟩, h3⟩
    have := sum_nonneg l h1
    have := sum_nonneg r h2
    exact ⟨⟨h1, by omega⟩, ⟨h2, by omega⟩, ⟨⟨by omega, by omega⟩, by omega, by omega⟩, by omega, by omega⟩
  · rintro ⟨⟨h1, h2⟩, ⟨h3, h4⟩, _, _, h5⟩
    exact ⟨⟨h1, h3⟩, h5⟩

theorem sum_len (ao : Option Addr) (zs : List Int) (n cap : Nat) (w : World) (hn : zs.length = n) (h : IntsAt .i64 w ao zs) (hm : n ≤ 9223372036854775807) :
    Calls Try.prog 15 #[.slice ao n cap] w fun e w' => e = .returned (.tuple #[.int .i64 (sumV zs), .int .i64 (sumE zs)]) ∧ w = w' := by
  subst hn; exact sum_any ao zs cap w h hm

theorem IntsAt.take {k : IntKind} {w : World} {ao : Option Addr} {zs : List Int} (h : IntsAt k w ao zs) (n : Nat) : IntsAt k w ao (zs.take n) := by
  rcases h with rfl | ⟨b, off, rfl, hc⟩
  · exact Or.inl (by simp)
  · refine Or.inr ⟨b, off, rfl, fun i hi => ?_⟩
    simp only [List.length_take] at hi
    rw [hc i (by omega)]
    simp [List.getD, show i < n by omega]
theorem IntsAt.below {k : IntKind} {w w' : World} {ao : Option Addr} {zs : List Int} (h : IntsAt k w ao zs) (hb : Below w.heap.size w w') : IntsAt k w' ao zs := by
  rcases h with rfl | ⟨b, off, rfl, hc⟩
  · exact Or.inl rfl
  · refine Or.inr ⟨b, off, rfl, fun i hi => ?_⟩
    have := World.block_lt_of_cell? w _ (hc i hi)
    rw [hb.cell (p := ⟨b, off + i, none⟩) this, hc i hi]
theorem IntsAt.drop {k : IntKind} {w : World} {b off : Nat} {zs : List Int} (hc : ∀ i, i < zs.length → w.cell? ⟨b, off + i, none⟩ = some (.int k (zs.getD i 0))) (n : Nat) : IntsAt k w (some ⟨b, off + n, none⟩) (zs.drop n) := by
  refine Or.inr ⟨b, off + n, rfl, fun i hi => ?_⟩
  simp only [List.length_drop] at hi
  rw [show off + n + i = off + (n + i) by omega, hc (n + i) (by omega)]
  simp [List.getD]

theorem addr_add (b off n : Nat) : (⟨b, off, none⟩ : Addr).add n = ⟨b, off + n, none⟩ := by unfold Addr.add; split <;> simp_all
theorem IntsAt.dropAt {k : IntKind} {w : World} {ao : Option Addr} {zs : List Int} (h : IntsAt k w ao zs) (n : Nat) : IntsAt k w (ao.map (·.add n)) (zs.drop n) := by
  rcases h with rfl | ⟨b, off, rfl, hc⟩
  · exact Or.inl (by simp)
  · rw [Option.map_some, addr_add]; exact IntsAt.drop hc n

end Go.Proofs.Ytnohdbhkepdjbaa
