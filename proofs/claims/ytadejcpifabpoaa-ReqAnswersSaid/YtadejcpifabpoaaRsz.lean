/- Plain laws of a batch's bytes: how many, one more, one less. -/
import Derived.Test.YtadejcpifabpoaaReqe
namespace Go.Proofs.Ytadejcpifabpoaa
open Go.RowKit
set_option linter.unusedVariables false
set_option linter.unusedSimpArgs false

def rqLen (r : RQ) : Nat := if r.k = 1 then 11 else if r.k = 2 then 51 else if r.k = 3 then 35 else if r.k = 4 then 3 else 0
theorem chunk_len (r : RQ) (h : okE false r.ev = true) : (chunkE false r.ev).length = rqLen r := by
  have e0 : r.ev.k = r.k := rfl
  unfold okE at h
  unfold chunkE rqLen
  rw [e0] at h ⊢
  by_cases h1 : r.k = 1
  · simp [h1, hasN, partE, numSign, putB_length]
  by_cases h2 : r.k = 2
  · rw [if_neg h1, if_pos h2] at h
    simp only [Bool.and_eq_true, decide_eq_true_eq] at h
    have hh : r.ev.h.size = 32 := h.1.1.2
    simp [h1, h2, hasN, partE, numSign, txtSign, putB_length, EV.txt, strNums_length, hh]
  by_cases h3 : r.k = 3
  · rw [if_neg h1, if_neg h2, if_pos h3] at h
    simp only [Bool.and_eq_true, decide_eq_true_eq] at h
    have hh : r.ev.s.size = 32 := h.1.1.2
    simp [h1, h2, h3, hasN, partE, numSign, txtSign, putB_length, EV.txt, strNums_length, hh]
  by_cases h4 : r.k = 4
  · simp [h1, h2, h3, h4, hasN, partE, numSign, putB_length]
  · rw [if_neg h1, if_neg h2, if_neg h3, if_neg h4] at h
    cases h
theorem encF_len (seen : Int) (rs : List RQ) (h : (encF seen rs).2 = 0) : (encF seen rs).1.length = 3 + (rs.map rqLen).sum := by
  obtain ⟨h1, h2⟩ := encF_ok h
  rw [h2]
  unfold encOK at h1
  rw [Bool.and_eq_true, Bool.and_eq_true] at h1
  have h3 := h1.2
  unfold encB
  have e : ∀ l : List RQ, (l.map RQ.ev).all (okE false) = true → ((l.map RQ.ev).flatMap (chunkE false)).length = (l.map rqLen).sum := by
    intro l
    induction l with
    | nil => intro _; rfl
    | cons r l ih =>
      intro hl
      rw [List.map_cons, List.all_cons, Bool.and_eq_true] at hl
      rw [List.map_cons, List.flatMap_cons, List.length_append, chunk_len r hl.1, ih hl.2]
      simp
  rw [List.length_append, List.length_append, putB_length, putB_length, e rs h3]
  omega
theorem decF_more (seen : Int) (rs : List RQ) (h : (encF seen rs).2 = 0) : (decF ((encF seen rs).1 ++ [0])).2 = 2 := by
  obtain ⟨h1, h2⟩ := encF_ok h
  have h3 := batchIn_enc seen rs [0] h1
  unfold decF
  rw [h2, h3]
  rw [if_neg]
  rintro ⟨_, _, h4⟩
  simp only [h2] at h4
  have := congrArg List.length h4
  simp at this
theorem decF_cut (seen : Int) (rs : List RQ) (h : (encF seen rs).2 = 0) (c : Nat) (hc : c < (encF seen rs).1.length) : (decF ((encF seen rs).1.take c)).2 = 2 := by
  rcases decF_12 ((encF seen rs).1.take c) with h0 | h0
  · exfalso
    have h5 := decF_ok h0
    obtain ⟨h1, h2⟩ := encF_ok h
    have h6 : (encF (decF ((encF seen rs).1.take c)).1.1 (decF ((encF seen rs).1.take c)).1.2).2 = 0 := by rw [h5]
    obtain ⟨g1, g2⟩ := encF_ok h6
    rw [h5] at g2
    simp only at g2
    have b1 := batchIn_enc _ _ ((encF seen rs).1.drop c) g1
    rw [← g2, List.take_append_drop] at b1
    have b2 := batchIn_enc seen rs [] h1
    rw [List.append_nil, ← h2] at b2
    rw [b1] at b2
    have := congrArg (fun x => x.2.1.length) b2
    simp at this
    omega
  · rw [h0]

theorem rqLen_le (r : RQ) : rqLen r ≤ 51 := by unfold rqLen; (repeat' split) <;> omega
theorem rqLens_le (rs : List RQ) : (rs.map rqLen).sum ≤ 51 * rs.length := by
  induction rs with
  | nil => simp
  | cons r rs ih => have := rqLen_le r; simp; omega

theorem chunk_le (e : EV) (h : okE true e = true) : (chunkE true e).length ≤ 60 := by
  unfold okE at h
  unfold chunkE
  by_cases h1 : e.k = 1
  · simp [h1, hasN, partE, numSign, putB_length]
  by_cases h2 : e.k = 2
  · rw [if_neg h1, if_pos h2] at h
    simp only [Bool.and_eq_true, decide_eq_true_eq] at h
    have hh : e.h.size = 32 := h.1.1.2
    simp [h2, hasN, partE, numSign, txtSign, putB_length, EV.txt, strNums_length, hh]
  by_cases h3 : e.k = 3
  · rw [if_neg h1, if_neg h2, if_pos h3] at h
    simp only [Bool.and_eq_true, decide_eq_true_eq] at h
    have hh : e.s.size = 32 := h.1.1.2
    simp [h3, hasN, partE, numSign, txtSign, putB_length, EV.txt, strNums_length, hh]
  by_cases h4 : e.k = 4
  · simp [h4, hasN, partE, numSign, putB_length]
  · rw [if_neg h1, if_neg h2, if_neg h3, if_neg h4] at h
    cases h

end Go.Proofs.Ytadejcpifabpoaa
