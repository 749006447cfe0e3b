/- Package req's reader, plainly: what was laid is read as it was. -/
import Derived.Test.YtadejcpifabpoaaReq8
import Derived.Test.YtadejcpifabpoaaPack
import Derived.Test.YtadejcpifabpoaaReqp
namespace Go.Proofs.Ytadejcpifabpoaa
open Go.RowKit
set_option linter.unusedVariables false
set_option linter.unusedSimpArgs false

abbrev InS := List Int × Bool
def inBytes (n : Nat) (st : InS) : List Int × InS := if st.1.length < n then (List.replicate n 0, ([], true)) else (st.1.take n, (st.1.drop n, st.2))
def inNum (n : Nat) (st : InS) : Int × InS :=
  if st.1.length < n then (0, ([], true)) else if MA < valB (st.1.take n) then (0, (st.1.drop n, true)) else (valB (st.1.take n), (st.1.drop n, st.2))
def stepIn (r : EV × InS) (c : Int) : EV × InS :=
  match numSign c with
  | some (j, z) => (r.1.setN (inNum z.toNat r.2).1 j, (inNum z.toNat r.2).2)
  | none => (r.1.setT (bytesOf (inBytes 32 r.2).1) (txtSign c), (inBytes 32 r.2).2)
def ev0 : EV := ⟨0, 0, 0, 0, 0, 0, 0, ⟨#[]⟩, ⟨#[]⟩⟩
def evIn (ev : Bool) (st : InS) : EV × InS := (hasN (inNum 1 st).1 ev).foldl stepIn (ev0.setN (inNum 1 st).1 0, (inNum 1 st).2)
def evsIn (ev : Bool) : Nat → InS → List EV × InS
  | 0, st => ([], st)
  | n + 1, st => if st.2 = true then ([], st) else ((evIn ev st).1 :: (evsIn ev n (evIn ev st).2).1, (evsIn ev n (evIn ev st).2).2)
def repIn (st : InS) : (Int × Int) × InS := (((inNum 1 st).1, (inNum 2 (inNum 1 st).2).1), (inNum 2 (inNum 1 st).2).2)
def repsIn : Nat → InS → List (Int × Int) × InS
  | 0, st => ([], st)
  | n + 1, st => if st.2 = true then ([], st) else ((repIn st).1 :: (repsIn n (repIn st).2).1, (repsIn n (repIn st).2).2)

theorem inNum_put (n : Int) (s : Nat) (rest : List Int) (b : Bool) (h : fitsB n s = true) : inNum s (putB n s ++ rest, b) = (n, (rest, b)) := by
  obtain ⟨h1, h2, h3, h4, h5⟩ := fits_lt n s h
  have e2 : ¬ (putB n s ++ rest).length < s := by simp [putB_length]
  have e3 : (putB n s ++ rest).take s = putB n s := List.take_left' (putB_length n s)
  have e4 : (putB n s ++ rest).drop s = rest := List.drop_left' (putB_length n s)
  unfold inNum
  simp only [if_neg e2, e3, e4, valB_put n s h3, h5]
  rw [if_neg (by omega)]
theorem bytesOf_strNums (s : ByteArray) : bytesOf (strNums s) = s := by
  unfold bytesOf strNums
  rw [List.map_map]
  have e : (fun z : Int => UInt8.ofNat z.toNat) ∘ (fun b : UInt8 => (b.toNat : Int)) = id := by
    funext b; simp
  rw [e]
  simp
theorem inBytes_str (s : ByteArray) (rest : List Int) (b : Bool) (h : s.size = 32) : inBytes 32 (strNums s ++ rest, b) = (strNums s, (rest, b)) := by
  have hl : (strNums s).length = 32 := by rw [strNums_length, h]
  unfold inBytes
  simp only [List.length_append, hl]
  rw [if_neg (by omega), List.take_left' hl, List.drop_left' hl]

/-- May an event be laid? -/
def okE (ev : Bool) (e : EV) : Bool :=
  if e.k = 1 then (if ev then fitsB e.f 1 else decide (e.f = 0)) && fitsB e.t 1 && fitsB e.a 1 && fitsB e.n 8 && decide (e.i = 0 ∧ e.d = 0) && (emptyB e.h && emptyB e.s)
  else if e.k = 2 then (if ev then fitsB e.f 1 && fitsB e.i 2 else decide (e.f = 0 ∧ e.i = 0)) && fitsB e.t 1 && fitsB e.a 1 && fitsB e.n 8 && decide (e.h.size = 32) && (fitsB e.d 8 && tickB e.d) && emptyB e.s
  else if e.k = 3 then fitsB e.i 2 && decide (e.s.size = 32) && decide (e.f = 0 ∧ e.t = 0 ∧ e.a = 0 ∧ e.n = 0 ∧ e.d = 0) && emptyB e.h
  else if e.k = 4 then fitsB e.i 2 && decide (e.f = 0 ∧ e.t = 0 ∧ e.a = 0 ∧ e.n = 0 ∧ e.d = 0) && (emptyB e.h && emptyB e.s)
  else false
def partE (e : EV) (c : Int) : List Int := match numSign c with
  | some (j, z) => putB (e.num j) z.toNat
  | none => strNums (e.txt (txtSign c))
def chunkE (ev : Bool) (e : EV) : List Int := putB e.k 1 ++ (hasN e.k ev).flatMap (partE e)
theorem emptyB_eq (s : ByteArray) (h : emptyB s = true) : s = ⟨#[]⟩ := by
  have := (emptyB_iff s).1 h
  cases s with | mk d => 
    congr 1
    exact Array.eq_empty_of_size_eq_zero this

set_option maxHeartbeats 4000000 in
theorem evOut_snd (ev : Bool) (st : List Int × Bool) (e : EV) : (evOut e (hasN e.k ev) st).2 = (st.2 || !okE ev e) := by
  obtain ⟨s1, s2, s3, s4, s5, s6, s7, s8, s9, s10⟩ := sgn
  obtain ⟨f1, f2, f3, f4⟩ := fits_small
  obtain ⟨k, f, t, a, n, i, d, h, s⟩ := e
  have hn := emptyB_nil
  unfold evOut evBody evHead
  by_cases h1 : k = 1
  · subst h1
    cases ev
    all_goals
      simp only [hasN, EV.setN, List.foldl_cons, List.foldl_nil, stepEv, s1, s2, s3, s6, numOut_snd, EV.num, EV.zero, okE, if_true, Bool.false_eq_true, if_false, List.isEmpty_cons, f1]
      by_cases hd : d = 0
      · subst hd
        rw [tickB_0]
        simp only [emptyB]
        by_cases hf : f = 0 <;> cases st.2 <;> cases fitsB t 1 <;> cases fitsB a 1 <;> cases fitsB n 8 <;> simp [hf, Bool.or_assoc]
      · simp only [emptyB]
        cases st.2 <;> cases fitsB t 1 <;> cases fitsB a 1 <;> cases fitsB n 8 <;> cases tickB d <;> simp [hd]
  · by_cases h2 : k = 2
    · subst h2
      unfold emptyB at hn
      cases ev
      all_goals
        simp only [hasN, EV.setN, EV.setT, EV.txt, List.foldl_cons, List.foldl_nil, stepEv, s1, s2, s3, s4, s5, s6, s7, s9, numOut_snd, EV.num, EV.zero, okE, if_true, Bool.false_eq_true, if_false, List.isEmpty_cons, f2, ne32, Int.reduceEq]
        unfold emptyB
        rw [hn]
        cases st.2 <;> cases fitsB t 1 <;> cases fitsB a 1 <;> cases fitsB n 8 <;> cases fitsB d 8 <;> cases tickB d <;> simp [Bool.or_assoc, Bool.or_comm, Bool.or_left_comm]
    · by_cases h3 : k = 3
      · subst h3
        simp only [hasN, EV.setN, EV.setT, EV.txt, List.foldl_cons, List.foldl_nil, stepEv, s4, s8, s10, numOut_snd, EV.num, EV.zero, okE, if_true, Bool.false_eq_true, if_false, List.isEmpty_cons, f3, ne32, Int.reduceEq, Nat.reduceEqDiff]
        unfold emptyB at hn ⊢
        rw [hn]
        by_cases hd : d = 0
        · subst hd
          rw [tickB_0]
          by_cases hs : s.size = 32 <;> cases st.2 <;> cases fitsB i 2 <;> cases h.toList.isEmpty <;> simp [hs]
        · cases st.2 <;> cases fitsB i 2 <;> cases tickB d <;> simp [hd]
      · by_cases h4 : k = 4
        · subst h4
          simp only [hasN, EV.setN, List.foldl_cons, List.foldl_nil, stepEv, s4, numOut_snd, EV.num, EV.zero, okE, if_true, Bool.false_eq_true, if_false, List.isEmpty_cons, f4, Int.reduceEq]
          by_cases hd : d = 0
          · subst hd
            rw [tickB_0]
            simp only [emptyB]
            cases st.2 <;> cases fitsB i 2 <;> simp
          · simp only [emptyB]
            cases st.2 <;> cases fitsB i 2 <;> cases tickB d <;> simp [hd]
        · simp [hasN, h1, h2, h3, h4, okE, numOut_snd]

theorem okE_k (ev : Bool) (e : EV) (h : okE ev e = true) : e.k = 1 ∨ e.k = 2 ∨ e.k = 3 ∨ e.k = 4 := by
  unfold okE at h
  by_cases h1 : e.k = 1
  · exact Or.inl h1
  · by_cases h2 : e.k = 2
    · exact Or.inr (Or.inl h2)
    · by_cases h3 : e.k = 3
      · exact Or.inr (Or.inr (Or.inl h3))
      · by_cases h4 : e.k = 4
        · exact Or.inr (Or.inr (Or.inr h4))
        · simp [h1, h2, h3, h4] at h

set_option maxHeartbeats 4000000 in
theorem evOut_fst (ev : Bool) (st : List Int × Bool) (e : EV) (h : okE ev e = true) : (evOut e (hasN e.k ev) st).1 = st.1 ++ chunkE ev e := by
  obtain ⟨s1, s2, s3, s4, s5, s6, s7, s8, s9, s10⟩ := sgn
  obtain ⟨f1, f2, f3, f4⟩ := fits_small
  have hk := okE_k ev e h
  obtain ⟨k, f, t, a, n, i, d, hh, s⟩ := e
  unfold evOut evBody evHead chunkE
  unfold okE at h
  simp only at hk h
  rcases hk with rfl | rfl | rfl | rfl
  · cases ev <;> simp only [Int.reduceEq, if_true, if_false, Bool.false_eq_true, Bool.and_eq_true, decide_eq_true_eq] at h
    · obtain ⟨⟨⟨⟨⟨h1, h2⟩, h3⟩, h4⟩, h5⟩, h6⟩ := h
      simp only [hasN, EV.setN, List.foldl_cons, List.foldl_nil, stepEv, s1, s2, s3, s6, numOut_fst, EV.num, if_true, Bool.false_eq_true, if_false, f1, h2, h3, h4, List.flatMap_cons, List.flatMap_nil, partE, List.append_assoc, List.append_nil, Int.reduceToNat]
    · obtain ⟨⟨⟨⟨⟨h1, h2⟩, h3⟩, h4⟩, h5⟩, h6⟩ := h
      simp only [hasN, EV.setN, List.foldl_cons, List.foldl_nil, stepEv, s1, s2, s3, s6, numOut_fst, EV.num, if_true, Bool.false_eq_true, if_false, f1, h1, h2, h3, h4, List.flatMap_cons, List.flatMap_nil, partE, List.append_assoc, List.append_nil, Int.reduceToNat]
  · cases ev <;> simp only [Int.reduceEq, if_true, if_false, Bool.false_eq_true, Bool.and_eq_true, decide_eq_true_eq] at h
    · obtain ⟨⟨⟨⟨⟨⟨h1, h2⟩, h3⟩, h4⟩, h5⟩, h6, h6'⟩, h7⟩ := h
      simp only [hasN, EV.setN, EV.setT, EV.txt, List.foldl_cons, List.foldl_nil, stepEv, s1, s2, s3, s4, s5, s6, s7, s9, numOut_fst, EV.num, if_true, Bool.false_eq_true, if_false, f2, h2, h3, h4, h6, List.flatMap_cons, List.flatMap_nil, partE, List.append_assoc, List.append_nil, Int.reduceEq, Int.reduceToNat]
    · obtain ⟨⟨⟨⟨⟨⟨⟨h1, h1'⟩, h2⟩, h3⟩, h4⟩, h5⟩, h6, h6'⟩, h7⟩ := h
      simp only [hasN, EV.setN, EV.setT, EV.txt, List.foldl_cons, List.foldl_nil, stepEv, s1, s2, s3, s4, s5, s6, s7, s9, numOut_fst, EV.num, if_true, Bool.false_eq_true, if_false, f2, h1, h1', h2, h3, h4, h6, List.flatMap_cons, List.flatMap_nil, partE, List.append_assoc, List.append_nil, Int.reduceEq, Int.reduceToNat]
  · simp only [Int.reduceEq, if_true, if_false, Bool.and_eq_true, decide_eq_true_eq] at h
    obtain ⟨⟨⟨h1, h2⟩, h3⟩, h4⟩ := h
    simp only [hasN, EV.setN, EV.setT, EV.txt, List.foldl_cons, List.foldl_nil, stepEv, s4, s8, s10, numOut_fst, EV.num, if_true, Bool.false_eq_true, if_false, f3, h1, List.flatMap_cons, List.flatMap_nil, partE, List.append_assoc, List.append_nil, Int.reduceEq, Nat.reduceEqDiff, Int.reduceToNat]
  · simp only [Int.reduceEq, if_true, if_false, Bool.and_eq_true, decide_eq_true_eq] at h
    obtain ⟨⟨h1, h2⟩, h3⟩ := h
    simp only [hasN, EV.setN, List.foldl_cons, List.foldl_nil, stepEv, s4, numOut_fst, EV.num, if_true, Bool.false_eq_true, if_false, f4, h1, List.flatMap_cons, List.flatMap_nil, partE, List.append_assoc, List.append_nil, Int.reduceEq, Int.reduceToNat]

set_option maxHeartbeats 4000000 in
theorem evIn_chunk (ev : Bool) (e : EV) (rest : List Int) (b : Bool) (h : okE ev e = true) : evIn ev (chunkE ev e ++ rest, b) = (e, (rest, b)) := by
  obtain ⟨s1, s2, s3, s4, s5, s6, s7, s8, s9, s10⟩ := sgn
  obtain ⟨f1, f2, f3, f4⟩ := fits_small
  have hk := okE_k ev e h
  obtain ⟨k, f, t, a, n, i, d, hh, s⟩ := e
  unfold evIn chunkE
  unfold okE at h
  simp only at hk h
  have hn1 : ∀ rest, inNum 1 (putB k 1 ++ rest, b) = (k, (rest, b)) := fun rest => inNum_put k 1 rest b (by rcases hk with rfl | rfl | rfl | rfl <;> assumption)
  simp only [List.append_assoc, hn1]
  rcases hk with rfl | rfl | rfl | rfl
  · cases ev <;> simp only [Int.reduceEq, if_true, if_false, Bool.false_eq_true, Bool.and_eq_true, decide_eq_true_eq] at h
    · obtain ⟨⟨⟨⟨⟨rfl, h2⟩, h3⟩, h4⟩, rfl, rfl⟩, h6, h7⟩ := h
      obtain rfl := emptyB_eq hh h6
      obtain rfl := emptyB_eq s h7
      have g2 := fun rest => inNum_put t 1 rest b h2
      have g3 := fun rest => inNum_put a 1 rest b h3
      have g4 := fun rest => inNum_put n 8 rest b h4
      simp only [hasN, List.flatMap_cons, List.flatMap_nil, partE, s2, s3, s1, EV.num, if_true, Bool.false_eq_true, if_false, List.append_assoc, List.nil_append, Int.reduceToNat, List.foldl_cons, List.foldl_nil, stepIn, EV.setN, ev0, g2, g3, g4]
    · obtain ⟨⟨⟨⟨⟨h1, h2⟩, h3⟩, h4⟩, rfl, rfl⟩, h6, h7⟩ := h
      obtain rfl := emptyB_eq hh h6
      obtain rfl := emptyB_eq s h7
      have g1 := fun rest => inNum_put f 1 rest b h1
      have g2 := fun rest => inNum_put t 1 rest b h2
      have g3 := fun rest => inNum_put a 1 rest b h3
      have g4 := fun rest => inNum_put n 8 rest b h4
      simp only [hasN, List.flatMap_cons, List.flatMap_nil, partE, s2, s3, s1, s6, EV.num, if_true, Bool.false_eq_true, if_false, List.append_assoc, List.nil_append, Int.reduceToNat, List.foldl_cons, List.foldl_nil, stepIn, EV.setN, ev0, g1, g2, g3, g4]
  · cases ev <;> simp only [Int.reduceEq, if_true, if_false, Bool.false_eq_true, Bool.and_eq_true, decide_eq_true_eq] at h
    · obtain ⟨⟨⟨⟨⟨⟨⟨rfl, rfl⟩, h2⟩, h3⟩, h4⟩, h5⟩, h6, h6'⟩, h7⟩ := h
      obtain rfl := emptyB_eq s h7
      have g2 := fun rest => inNum_put t 1 rest b h2
      have g3 := fun rest => inNum_put a 1 rest b h3
      have g4 := fun rest => inNum_put n 8 rest b h4
      have g5 := fun rest => inBytes_str hh rest b h5
      have g6 := fun rest => inNum_put d 8 rest b h6
      simp only [hasN, List.flatMap_cons, List.flatMap_nil, partE, s1, s2, s3, s5, s7, s9, EV.num, EV.txt, if_true, Bool.false_eq_true, if_false, List.append_assoc, List.nil_append, Int.reduceToNat, Int.reduceEq, List.foldl_cons, List.foldl_nil, stepIn, EV.setN, EV.setT, ev0, g2, g3, g4, g5, g6, bytesOf_strNums]
    · obtain ⟨⟨⟨⟨⟨⟨⟨h1, h1'⟩, h2⟩, h3⟩, h4⟩, h5⟩, h6, h6'⟩, h7⟩ := h
      obtain rfl := emptyB_eq s h7
      have g1 := fun rest => inNum_put f 1 rest b h1
      have g1' := fun rest => inNum_put i 2 rest b h1'
      have g2 := fun rest => inNum_put t 1 rest b h2
      have g3 := fun rest => inNum_put a 1 rest b h3
      have g4 := fun rest => inNum_put n 8 rest b h4
      have g5 := fun rest => inBytes_str hh rest b h5
      have g6 := fun rest => inNum_put d 8 rest b h6
      simp only [hasN, List.flatMap_cons, List.flatMap_nil, partE, s1, s2, s3, s4, s5, s6, s7, s9, EV.num, EV.txt, if_true, Bool.false_eq_true, if_false, List.append_assoc, List.nil_append, Int.reduceToNat, Int.reduceEq, List.foldl_cons, List.foldl_nil, stepIn, EV.setN, EV.setT, ev0, g1, g1', g2, g3, g4, g5, g6, bytesOf_strNums]
  · simp only [Int.reduceEq, if_true, if_false, Bool.and_eq_true, decide_eq_true_eq] at h
    obtain ⟨⟨⟨h1, h2⟩, rfl, rfl, rfl, rfl, rfl⟩, h4⟩ := h
    obtain rfl := emptyB_eq hh h4
    have g1 := fun rest => inNum_put i 2 rest b h1
    have g2 := fun rest => inBytes_str s rest b h2
    simp only [hasN, List.flatMap_cons, List.flatMap_nil, partE, s4, s8, s10, EV.num, EV.txt, if_true, Bool.false_eq_true, if_false, List.append_assoc, List.nil_append, Int.reduceToNat, Int.reduceEq, Nat.reduceEqDiff, List.foldl_cons, List.foldl_nil, stepIn, EV.setN, EV.setT, ev0, g1, g2, bytesOf_strNums]
  · simp only [Int.reduceEq, if_true, if_false, Bool.and_eq_true, decide_eq_true_eq] at h
    obtain ⟨⟨h1, rfl, rfl, rfl, rfl, rfl⟩, h3, h4⟩ := h
    obtain rfl := emptyB_eq hh h3
    obtain rfl := emptyB_eq s h4
    have g1 := fun rest => inNum_put i 2 rest b h1
    simp only [hasN, List.flatMap_cons, List.flatMap_nil, partE, s4, EV.num, if_true, Bool.false_eq_true, if_false, List.append_assoc, List.nil_append, Int.reduceToNat, Int.reduceEq, List.foldl_cons, List.foldl_nil, stepIn, EV.setN, ev0, g1]

end Go.Proofs.Ytadejcpifabpoaa
