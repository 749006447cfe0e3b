/- The reference's words for what a request, an event may be: the same as okE. -/
import Derived.Test.YtadejcpifabpoaaRefn
import Derived.Test.YtadejcpifabpoaaRefe
namespace Go.Proofs.Ytadejcpifabpoaa
open Go.RowKit
set_option linter.unusedVariables false
set_option linter.unusedSimpArgs false

theorem byteB_fits (n : Int) : byteB n = fitsB n 1 := by
  have h := fitsB_small n 1 (by omega) (by omega)
  have e : (((1 : Nat) : Int)) = 1 := rfl
  rw [e] at h
  rw [h]
  unfold byteB
  rw [Bool.eq_iff_iff]
  simp
  omega
theorem amt_fits (n : Int) : amtB n = fitsB n 8 := by
  rw [fitsB_8]
  rw [Bool.eq_iff_iff, amt_iff]
  unfold MA
  simp
theorem id_fits (n : Int) : (0 ≤ n ∧ n ≤ 65535) ↔ fitsB n 2 = true := by
  have h := fitsB_small n 2 (by omega) (by omega)
  have e : (((2 : Nat) : Int)) = 2 := rfl
  rw [e] at h
  rw [h]
  simp
  omega
theorem fits0 : fitsB 0 1 = true ∧ fitsB 0 2 = true ∧ fitsB 0 8 = true ∧ tickB 0 = true := by decide
theorem emptyB_is (s : ByteArray) : emptyB s = true ↔ s = ⟨#[]⟩ := ⟨emptyB_eq s, fun h => by rw [h]; exact emptyB_nil⟩
theorem fits0d : fitsB 0 8 = true ∧ tickB 0 = true := by decide
theorem tick_fits (n : Int) (h : tickB n = true) : fitsB n 8 = true := by
  rw [← amt_fits, amt_iff]
  rw [tick_iff] at h
  unfold MA
  unfold MT at h
  omega
theorem mayRQ_ok (r : RQ) : mayRQ r = okE false r.ev := by
  obtain ⟨k, t, a, n, i, d, h, s⟩ := r
  obtain ⟨f1, f2, f3, f4⟩ := fits0
  have f5 : (0 : Int) ≤ 65535 := by decide
  have f6 := tick_fits d
  rw [Bool.eq_iff_iff]
  unfold mayRQ okE RQ.ev xReq
  by_cases h1 : k = 1
  · subst h1
    simp [eqRQ_iff, byteB_fits, amt_fits, emptyB_is, ← id_fits]
    constructor
    · intro g; simp_all
    · intro g; simp_all
  by_cases h2 : k = 2
  · subst h2
    simp [eqRQ_iff, byteB_fits, amt_fits, emptyB_is, ← id_fits]
    constructor
    · intro g; simp_all
    · intro g; simp_all
  by_cases h3 : k = 3
  · subst h3
    simp [eqRQ_iff, byteB_fits, amt_fits, emptyB_is, ← id_fits]
    constructor
    · intro g; simp_all
    · intro g; simp_all
  by_cases h4 : k = 4
  · subst h4
    simp [eqRQ_iff, byteB_fits, amt_fits, emptyB_is, ← id_fits]
    constructor
    · intro g; simp_all
    · intro g; simp_all
  · simp [h1, h2, h3, h4]
theorem mayEV_ok (r : EV) : mayEV r = okE true r := by
  obtain ⟨k, f, t, a, n, i, d, h, s⟩ := r
  obtain ⟨f1, f2, f3, f4⟩ := fits0
  have f5 : (0 : Int) ≤ 65535 := by decide
  have f6 := tick_fits d
  rw [Bool.eq_iff_iff]
  unfold mayEV okE xEv
  by_cases h1 : k = 1
  · subst h1
    simp [eqEV_iff, byteB_fits, amt_fits, emptyB_is, ← id_fits]
    constructor
    · intro g; simp_all
    · intro g; simp_all
  by_cases h2 : k = 2
  · subst h2
    simp [eqEV_iff, byteB_fits, amt_fits, emptyB_is, ← id_fits]
    constructor
    · intro g; simp_all
    · intro g; simp_all
  by_cases h3 : k = 3
  · subst h3
    simp [eqEV_iff, byteB_fits, amt_fits, emptyB_is, ← id_fits]
    constructor
    · intro g; simp_all
    · intro g; simp_all
  by_cases h4 : k = 4
  · subst h4
    simp [eqEV_iff, byteB_fits, amt_fits, emptyB_is, ← id_fits]
    constructor
    · intro g; simp_all
    · intro g; simp_all
  · simp [h1, h2, h3, h4]

end Go.Proofs.Ytadejcpifabpoaa
