/- The reference's reader, plainly: what was laid is read as it was; its answers are decF's, decA's. -/
import Derived.Test.YtadejcpifabpoaaRefh
import Derived.Test.YtadejcpifabpoaaRefr
namespace Go.Proofs.Ytadejcpifabpoaa
open Go.RowKit
set_option linter.unusedVariables false
set_option linter.unusedSimpArgs false

theorem dN_put (n : Int) (s : Nat) (rest : List Int) (h : fitsB n s = true) : dN s (putB n s ++ rest, 0) = (n, (rest, 0)) := by
  unfold dN
  rw [decNum_put n s rest h]
theorem dN_put1 (n : Int) (rest : List Int) (h : fitsB n 1 = true) : dN 1 (putB n 1 ++ rest, 0) = (n, (rest, 0)) := dN_put n 1 rest h
theorem dN_put2 (n : Int) (rest : List Int) (h : fitsB n 2 = true) : dN 2 (putB n 2 ++ rest, 0) = (n, (rest, 0)) := dN_put n 2 rest h
theorem dN_put8 (n : Int) (rest : List Int) (h : fitsB n 8 = true) : dN 8 (putB n 8 ++ rest, 0) = (n, (rest, 0)) := dN_put n 8 rest h
theorem dR_put (h : ByteArray) (rest : List Int) (hs : h.size = 32) : dR (strNums h ++ rest, 0) = (strNums h, (rest, 0)) := by
  have hl : (strNums h).length = 32 := by rw [strNums_length, hs]
  unfold dR decRaw
  rw [if_pos rfl, if_neg (by rw [List.length_append, hl]; omega)]
  have e : (32 : Int).toNat = 32 := rfl
  rw [e, List.take_left' hl, List.drop_left' hl]
theorem str_nums (s : ByteArray) : strOfNums (strNums s) = s := by
  have h : bytesOf (strNums s) = strOfNums (strNums s) := by
    apply ByteArray.ext
    apply Array.ext'
    rw [strOfNums_data]
    simp [bytesOf]
  rw [← h]
  exact bytesOf_strNums s
theorem rqGet_chunk (r : RQ) (rest : List Int) (h : okE false r.ev = true) : rqGet (chunkE false r.ev ++ rest, 0) = (r, (rest, 0)) := by
  rcases okE_k false r.ev h with hk | hk | hk | hk
  · have hk' : r.k = 1 := hk
    obtain ⟨e, f1, f2, f3, f4⟩ := putReq_chunk1 r hk' h
    have g := h
    unfold okE at g
    rw [hk] at g
    simp only [if_pos, reduceIte, Int.reduceEq, Bool.and_eq_true, decide_eq_true_eq, Bool.false_eq_true, emptyB_is, RQ.ev] at g
    unfold rqGet rqA rqB rqC rqD
    rw [e]
    simp only [List.append_assoc]
    rw [dN_put _ 1 _ (by rw [hk']; decide)]
    simp only [hk', true_or, if_true, dN_put1, dN_put2, dN_put8, f1, f2, f3]
    obtain ⟨k, t, a, n, i, d, hh, s⟩ := r
    simp_all
    all_goals (have g2 := of_decide_eq_true g.1.2; omega)
  · have hk' : r.k = 2 := hk
    obtain ⟨e, f1, f2, f3, f4, f5, f6⟩ := putReq_chunk2 r hk' h
    have g := h
    unfold okE at g
    rw [hk] at g
    simp only [if_pos, reduceIte, Int.reduceEq, Bool.and_eq_true, decide_eq_true_eq, Bool.false_eq_true, emptyB_is, RQ.ev] at g
    unfold rqGet rqA rqB rqC rqD
    rw [e]
    simp only [List.append_assoc]
    rw [dN_put _ 1 _ (by rw [hk']; decide)]
    simp only [hk', or_true, if_true, dN_put1, dN_put2, dN_put8, dR_put, str_nums, f1, f2, f3, f4, f5, f6]
    obtain ⟨k, t, a, n, i, d, hh, s⟩ := r
    simp_all
  · have hk' : r.k = 3 := hk
    obtain ⟨e, f1, f2⟩ := putReq_chunk3 r hk' h
    have g := h
    unfold okE at g
    rw [hk] at g
    simp only [if_pos, reduceIte, Int.reduceEq, Bool.and_eq_true, decide_eq_true_eq, Bool.false_eq_true, emptyB_is, RQ.ev] at g
    unfold rqGet rqA rqB rqC rqD
    rw [e]
    simp only [List.append_assoc]
    rw [dN_put _ 1 _ (by rw [hk']; decide)]
    simp [hk', dN_put1, dN_put2, dN_put8, dR_put, str_nums, f1, f2]
    obtain ⟨k, t, a, n, i, d, hh, s⟩ := r
    simp_all
  · have hk' : r.k = 4 := hk
    obtain ⟨e, f1, f2⟩ := putReq_chunk4 r hk' h
    have g := h
    unfold okE at g
    rw [hk] at g
    simp only [if_pos, reduceIte, Int.reduceEq, Bool.and_eq_true, decide_eq_true_eq, Bool.false_eq_true, emptyB_is, RQ.ev] at g
    unfold rqGet rqA rqB rqC rqD
    rw [e]
    simp only [List.append_assoc]
    rw [dN_put _ 1 _ (by rw [hk']; decide)]
    simp [hk', dN_put1, dN_put2, dN_put8, dR_put, str_nums, f1, f2]
    obtain ⟨k, t, a, n, i, d, hh, s⟩ := r
    simp_all

theorem evGet_chunk (r : EV) (rest : List Int) (h : okE true r = true) : evxGet (chunkE true r ++ rest, 0) = (r, (rest, 0)) := by
  rcases okE_k true r h with hk | hk | hk | hk
  · have hk' : r.k = 1 := hk
    obtain ⟨e, f1, f2, f3, f4, f5⟩ := putEvent_chunk1 r hk' h
    have g := h
    unfold okE at g
    rw [hk] at g
    simp only [if_pos, reduceIte, Int.reduceEq, Bool.and_eq_true, decide_eq_true_eq, Bool.false_eq_true, emptyB_is] at g
    unfold evxGet evxA evxB evxC evxD
    rw [e]
    simp only [List.append_assoc]
    rw [dN_put _ 1 _ (by rw [hk']; decide)]
    simp [hk', dN_put1, dN_put2, dN_put8, f1, f2, f3, f4]
    obtain ⟨k, f, t, a, n, i, d, hh, s⟩ := r
    simp_all
    all_goals (have g2 := of_decide_eq_true g.1.2; omega)
  · have hk' : r.k = 2 := hk
    obtain ⟨e, f1, f2, f3, f4, f5, f6, f7, f8⟩ := putEvent_chunk2 r hk' h
    have g := h
    unfold okE at g
    rw [hk] at g
    simp only [if_pos, reduceIte, Int.reduceEq, Bool.and_eq_true, decide_eq_true_eq, Bool.false_eq_true, emptyB_is] at g
    unfold evxGet evxA evxB evxC evxD
    rw [e]
    simp only [List.append_assoc]
    rw [dN_put _ 1 _ (by rw [hk']; decide)]
    simp [hk', dN_put1, dN_put2, dN_put8, dR_put, str_nums, f1, f2, f3, f4, f5, f6, f7, f8]
    obtain ⟨k, f, t, a, n, i, d, hh, s⟩ := r
    simp_all
  · have hk' : r.k = 3 := hk
    obtain ⟨e, f1, f2⟩ := putEvent_chunk3 r hk' h
    have g := h
    unfold okE at g
    rw [hk] at g
    simp only [if_pos, reduceIte, Int.reduceEq, Bool.and_eq_true, decide_eq_true_eq, Bool.false_eq_true, emptyB_is] at g
    unfold evxGet evxA evxB evxC evxD
    rw [e]
    simp only [List.append_assoc]
    rw [dN_put _ 1 _ (by rw [hk']; decide)]
    simp [hk', dN_put1, dN_put2, dN_put8, dR_put, str_nums, f1, f2]
    obtain ⟨k, f, t, a, n, i, d, hh, s⟩ := r
    simp_all
  · have hk' : r.k = 4 := hk
    obtain ⟨e, f1, f2⟩ := putEvent_chunk4 r hk' h
    have g := h
    unfold okE at g
    rw [hk] at g
    simp only [if_pos, reduceIte, Int.reduceEq, Bool.and_eq_true, decide_eq_true_eq, Bool.false_eq_true, emptyB_is] at g
    unfold evxGet evxA evxB evxC evxD
    rw [e]
    simp only [List.append_assoc]
    rw [dN_put _ 1 _ (by rw [hk']; decide)]
    simp [hk', dN_put1, dN_put2, dN_put8, dR_put, str_nums, f1, f2]
    obtain ⟨k, f, t, a, n, i, d, hh, s⟩ := r
    simp_all

end Go.Proofs.Ytadejcpifabpoaa
