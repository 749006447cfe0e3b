/- Which requests may be laid, plainly. -/
import Derived.Test.YtkaciaehlibidaaGreatReq4
namespace Go.Proofs.YtkaciaehlibidaaGreat
set_option linter.unusedVariables false

theorem numOut_snd (st : List Int × Bool) (n z : Int) : (numOut st n z).2 = (st.2 || !fitsB n z) := by
  unfold numOut
  cases fitsB n z <;> simp
theorem numOut_fst (st : List Int × Bool) (n z : Int) : (numOut st n z).1 = st.1 ++ (if fitsB n z = true then putB n z.toNat else []) := by
  unfold numOut
  cases fitsB n z <;> simp
def emptyB (s : ByteArray) : Bool := s.toList.isEmpty
theorem emptyB_nil : emptyB ⟨#[]⟩ = true := by simp [emptyB, ByteArray.toList_eq]
theorem emptyB_iff (s : ByteArray) : emptyB s = true ↔ s.size = 0 := by
  unfold emptyB
  rw [ByteArray.toList_eq, List.isEmpty_iff_length_eq_zero, Array.length_toList]
  exact Iff.rfl
def okB (r : RQ) : Bool :=
  if r.k = 1 then fitsB r.t 1 && fitsB r.a 1 && fitsB r.n 8 && decide (r.i = 0 ∧ r.d = 0) && (emptyB r.h && emptyB r.s)
  else if r.k = 2 then fitsB r.t 1 && fitsB r.a 1 && fitsB r.n 8 && decide (r.h.size = 32) && (fitsB r.d 8 && tickB r.d) && decide (r.i = 0) && emptyB r.s
  else if r.k = 3 then fitsB r.i 2 && decide (r.s.size = 32) && decide (r.t = 0 ∧ r.a = 0 ∧ r.n = 0 ∧ r.d = 0) && emptyB r.h
  else if r.k = 4 then fitsB r.i 2 && decide (r.t = 0 ∧ r.a = 0 ∧ r.n = 0 ∧ r.d = 0) && (emptyB r.h && emptyB r.s)
  else false
theorem tickB_0 : tickB 0 = true := by decide
theorem fits_small : fitsB 1 1 = true ∧ fitsB 2 1 = true ∧ fitsB 3 1 = true ∧ fitsB 4 1 = true := by decide
theorem ne32 (n : Nat) : ((n : Int) != 32) = !decide (n = 32) := by
  by_cases h : n = 32
  · subst h; rfl
  · have : (n : Int) ≠ 32 := by omega
    simp [h, this]
theorem sgn : numSign 116 = some (2, 1) ∧ numSign 97 = some (3, 1) ∧ numSign 110 = some (4, 8) ∧ numSign 105 = some (5, 2) ∧ numSign 100 = some (6, 8) ∧ numSign 102 = some (1, 1) ∧ numSign 104 = none ∧ numSign 115 = none ∧ txtSign 104 = 7 ∧ txtSign 115 = 8 := by decide

set_option maxHeartbeats 1000000 in
theorem encReq_bad (st : List Int × Bool) (r : RQ) : (encReq st r).2 = (st.2 || !okB r) := by
  obtain ⟨s1, s2, s3, s4, s5, s6, s7, s8, s9, s10⟩ := sgn
  obtain ⟨f1, f2, f3, f4⟩ := fits_small
  obtain ⟨k, t, a, n, i, d, h, s⟩ := r
  unfold encReq evOut evBody evHead
  by_cases h1 : k = 1
  · subst h1
    simp only [hasN, RQ.ev, EV.setN, List.foldl_cons, List.foldl_nil, stepEv, s1, s2, s3, numOut_snd, EV.num, EV.zero, okB, if_true, Bool.false_eq_true, if_false, List.isEmpty_cons, f1]
    by_cases hd : d = 0
    · subst hd
      rw [tickB_0]
      simp only [emptyB]
      cases st.2 <;> cases fitsB t 1 <;> cases fitsB a 1 <;> cases fitsB n 8 <;> simp
    · simp only [emptyB]
      cases st.2 <;> cases fitsB t 1 <;> cases fitsB a 1 <;> cases fitsB n 8 <;> cases tickB d <;> simp [hd]
  · by_cases h2 : k = 2
    · subst h2
      simp only [hasN, RQ.ev, EV.setN, EV.setT, EV.txt, List.foldl_cons, List.foldl_nil, stepEv, s1, s2, s3, s5, s7, s9, numOut_snd, EV.num, EV.zero, okB, if_true, Bool.false_eq_true, if_false, List.isEmpty_cons, f2, ne32, Int.reduceEq]
      have hn := emptyB_nil
      unfold emptyB at hn ⊢
      rw [hn]
      cases st.2 <;> cases fitsB t 1 <;> cases fitsB a 1 <;> cases fitsB n 8 <;> cases fitsB d 8 <;> cases tickB d <;> simp [Bool.or_assoc]
    · by_cases h3 : k = 3
      · subst h3
        simp only [hasN, RQ.ev, EV.setN, EV.setT, EV.txt, List.foldl_cons, List.foldl_nil, stepEv, s4, s8, s10, numOut_snd, EV.num, EV.zero, okB, if_true, Bool.false_eq_true, if_false, List.isEmpty_cons, f3, ne32, Int.reduceEq, Nat.reduceEqDiff]
        have hn := emptyB_nil
        unfold emptyB at hn ⊢
        rw [hn]
        by_cases hd : d = 0
        · subst hd
          rw [tickB_0]
          by_cases hs : s.size = 32 <;> cases st.2 <;> cases fitsB i 2 <;> cases h.toList.isEmpty <;> simp [hs]
        · cases st.2 <;> cases fitsB i 2 <;> cases tickB d <;> simp [hd]
      · by_cases h4 : k = 4
        · subst h4
          simp only [hasN, RQ.ev, EV.setN, List.foldl_cons, List.foldl_nil, stepEv, s4, numOut_snd, EV.num, EV.zero, okB, if_true, Bool.false_eq_true, if_false, List.isEmpty_cons, f4, Int.reduceEq]
          by_cases hd : d = 0
          · subst hd
            rw [tickB_0]
            simp only [emptyB]
            cases st.2 <;> cases fitsB i 2 <;> simp
          · simp only [emptyB]
            cases st.2 <;> cases fitsB i 2 <;> cases tickB d <;> simp [hd]
        · simp [hasN, h1, h2, h3, h4, RQ.ev, okB, numOut_snd]

end Go.Proofs.YtkaciaehlibidaaGreat
