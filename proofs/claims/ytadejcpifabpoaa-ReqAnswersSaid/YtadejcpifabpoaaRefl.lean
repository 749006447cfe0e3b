/- The reference's reader of batches and answers, plainly: decF, decA. -/
import Derived.Test.YtadejcpifabpoaaRefk
namespace Go.Proofs.Ytadejcpifabpoaa
open Go.RowKit
set_option linter.unusedVariables false
set_option linter.unusedSimpArgs false

def manyGet {α : Type} (f : DS → α × DS) : Nat → DS → List α × DS
  | 0, d => ([], d)
  | n + 1, d => if d.2 ≠ 0 then ([], d) else ((f d).1 :: (manyGet f n (f d).2).1, (manyGet f n (f d).2).2)
theorem manyGet_chunks {α : Type} (f : DS → α × DS) (c : α → List Int) (ok : α → Bool) (hf : ∀ x rest, ok x = true → f (c x ++ rest, 0) = (x, (rest, 0))) :
    ∀ (l : List α) (rest : List Int), l.all ok = true → manyGet f l.length (l.flatMap c ++ rest, 0) = (l, (rest, 0))
  | [], rest, _ => rfl
  | x :: l, rest, h => by
    rw [List.all_cons, Bool.and_eq_true] at h
    have ih := manyGet_chunks f c ok hf l rest h.2
    rw [List.length_cons, List.flatMap_cons, List.append_assoc]
    unfold manyGet
    rw [if_neg (by simp), hf x _ h.1, ih]
theorem manyGet_size {α : Type} (f : DS → α × DS) : ∀ (n : Nat) (d : DS), (manyGet f n d).1.length ≤ n
  | 0, _ => Nat.le_refl _
  | n + 1, d => by
    unfold manyGet
    split
    · exact Nat.zero_le _
    · have := manyGet_size f n (f d).2
      rw [List.length_cons]; omega
def repGet (d : DS) : (Int × Int) × DS := (((dN 1 d).1, (dN 2 (dN 1 d).2).1), (dN 2 (dN 1 d).2).2)
theorem repGet_chunk (r : Int × Int) (rest : List Int) (h : okRep r = true) : repGet (chunkRep r ++ rest, 0) = (r, (rest, 0)) := by
  unfold okRep at h
  rw [Bool.and_eq_true] at h
  unfold repGet chunkRep
  rw [List.append_assoc, dN_put1 _ _ h.1, dN_put2 _ _ h.2]

def rbatch (b : List Int) : (Int × List RQ) × DS := (((dN 2 (b, 0)).1, (manyGet rqGet (dN 1 (dN 2 (b, 0)).2).1.toNat (dN 1 (dN 2 (b, 0)).2).2).1), (manyGet rqGet (dN 1 (dN 2 (b, 0)).2).1.toNat (dN 1 (dN 2 (b, 0)).2).2).2)
def rdecF (b : List Int) : (Int × List RQ) × Int :=
  if decEnd (rbatch b).2.1 (rbatch b).2.2 = 0 ∧ (encF (rbatch b).1.1 (rbatch b).1.2).2 = 0 ∧ (encF (rbatch b).1.1 (rbatch b).1.2).1 = b then ((rbatch b).1, 0) else ((0, []), 2)
theorem rbatch_enc (seen : Int) (rs : List RQ) (h : encOK seen rs = true) : rbatch (encB seen rs) = ((seen, rs), ([], 0)) := by
  unfold encOK at h
  rw [Bool.and_eq_true, Bool.and_eq_true, decide_eq_true_eq, List.all_map] at h
  obtain ⟨⟨h1, h2⟩, h3⟩ := h
  have g3 := manyGet_chunks rqGet (fun r => chunkE false r.ev) (fun r => okE false r.ev) rqGet_chunk rs [] h3
  rw [List.append_nil] at g3
  unfold rbatch encB
  rw [dN_put2 _ _ h2, dN_put1 _ _ (fits_len1 rs.length (by omega)), List.flatMap_map]
  simp only [Int.toNat_natCast, g3]
theorem rdecF_eq (b : List Int) : rdecF b = decF b := by
  rcases decF_12 b with h0 | h0
  · have h1 := decF_ok h0
    have h2 : (encF (decF b).1.1 (decF b).1.2).2 = 0 := by rw [h1]
    obtain ⟨h3, h4⟩ := encF_ok h2
    rw [h1] at h4
    simp only at h4
    have h5 := rbatch_enc _ _ h3
    rw [← h4] at h5
    unfold rdecF
    rw [h5, if_pos ⟨rfl, h2, by rw [h1]⟩]
    exact Prod.ext rfl h0.symm
  · rw [h0]
    unfold rdecF
    split
    · rename_i hc
      have := (decF_iff b (rbatch b).1.1 (rbatch b).1.2).2 (Prod.ext hc.2.2 hc.2.1)
      rw [h0] at this
      have := congrArg Prod.snd this
      simp at this
    · rfl
def rans (b : List Int) : AN × DS :=
  (⟨(dN 8 (b, 0)).1, (dN 2 (dN 8 (b, 0)).2).1, (manyGet repGet (dN 1 (dN 2 (dN 8 (b, 0)).2).2).1.toNat (dN 1 (dN 2 (dN 8 (b, 0)).2).2).2).1,
    (manyGet evxGet (dN 2 (manyGet repGet (dN 1 (dN 2 (dN 8 (b, 0)).2).2).1.toNat (dN 1 (dN 2 (dN 8 (b, 0)).2).2).2).2).1.toNat (dN 2 (manyGet repGet (dN 1 (dN 2 (dN 8 (b, 0)).2).2).1.toNat (dN 1 (dN 2 (dN 8 (b, 0)).2).2).2).2).2).1⟩,
    (manyGet evxGet (dN 2 (manyGet repGet (dN 1 (dN 2 (dN 8 (b, 0)).2).2).1.toNat (dN 1 (dN 2 (dN 8 (b, 0)).2).2).2).2).1.toNat (dN 2 (manyGet repGet (dN 1 (dN 2 (dN 8 (b, 0)).2).2).1.toNat (dN 1 (dN 2 (dN 8 (b, 0)).2).2).2).2).2).2)
def rdecA (b : List Int) : AN × Int := if decEnd (rans b).2.1 (rans b).2.2 = 0 ∧ (rans b).1.enc.2 = 0 ∧ (rans b).1.enc.1 = b then ((rans b).1, 0) else (an0, 2)
theorem fits_len400 (n : Nat) (h : n ≤ 400) : fitsB n 2 = true := by
  rw [← id_fits]; omega
theorem rans_enc (c q : Int) (rs : List (Int × Int)) (es : List EV) (h : ansAll c q rs es = true) : rans (ansB c q rs es) = (⟨c, q, rs, es⟩, ([], 0)) := by
  unfold ansAll ansOK at h
  simp only [Bool.and_eq_true, decide_eq_true_eq] at h
  obtain ⟨⟨⟨⟨⟨⟨h1, h2⟩, h3⟩, h4⟩, h5⟩, h6⟩, h7⟩ := h
  have g1 := fun rest => manyGet_chunks repGet chunkRep okRep repGet_chunk rs rest h6
  have g2 := manyGet_chunks evxGet (chunkE true) (okE true) evGet_chunk es [] h7
  rw [List.append_nil] at g2
  unfold rans ansB
  rw [dN_put8 _ _ h4, dN_put2 _ _ h5, dN_put1 _ _ (fits_len1 rs.length (by omega))]
  simp only [Int.toNat_natCast, g1]
  rw [dN_put2 _ _ (fits_len400 es.length (by omega))]
  simp only [Int.toNat_natCast, g2]
theorem rdecA_eq (b : List Int) : rdecA b = decA b := by
  rcases decA_12 b with h0 | h0
  · have h1 := decA_ok h0
    generalize decA b = D at *
    obtain ⟨⟨c, q, rs, es⟩, er⟩ := D
    simp only at h0 h1
    subst h0
    have h2 : (AN.enc ⟨c, q, rs, es⟩).2 = 0 := by rw [h1]
    obtain ⟨h3, h4⟩ := ansF_ok h2
    rw [h1] at h4
    simp only at h4 h3
    have h5 := rans_enc c q rs es h3
    rw [← h4] at h5
    unfold rdecA
    rw [h5]
    simp only [h1]
    rw [if_pos (by simp [decEnd])]
  · rw [h0]
    unfold rdecA
    split
    · rename_i hc
      have := (decA_iff b (rans b).1).2 (Prod.ext hc.2.2 hc.2.1)
      rw [h0] at this
      have := congrArg Prod.snd this
      simp at this
    · rfl

end Go.Proofs.Ytadejcpifabpoaa
