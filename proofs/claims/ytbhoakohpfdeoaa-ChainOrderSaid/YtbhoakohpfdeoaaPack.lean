/- Plain facts: what was laid by the encoder is read by the decoder; what is cut is not. -/
import Derived.Test.YtbhoakohpfdeoaaDec4
namespace Go.Proofs.Ytbhoakohpfdeoaa
open Go.RowKit
set_option linter.unusedVariables false

theorem foldl_valB (zs : List Int) (a : Int) : zs.foldl (fun n c => n * 256 + c) a = a * 256 ^ zs.length + valB zs := by
  induction zs generalizing a with
  | nil => simp [valB]
  | cons c zs ih =>
    have e1 : valB (c :: zs) = c * 256 ^ zs.length + valB zs := by
      show (c :: zs).foldl (fun n c => n * 256 + c) 0 = _
      rw [List.foldl_cons, ih]; simp
    rw [List.foldl_cons, ih, e1, List.length_cons, Int.pow_succ, Int.add_mul]
    have e : a * 256 * 256 ^ zs.length = a * (256 ^ zs.length * 256) := by rw [Int.mul_assoc, Int.mul_comm 256]
    rw [e]; omega
theorem valB_cons (c : Int) (zs : List Int) : valB (c :: zs) = c * 256 ^ zs.length + valB zs := by
  rw [valB, List.foldl_cons, foldl_valB]; simp
theorem mod_split (n m : Nat) : (n : Int) % ((m : Int) * 256) = (n : Int) % m + m * ((n : Int) / m % 256) := by
  have h := congrArg (fun x : Nat => (x : Int)) (Nat.mod_mul (a := m) (b := 256) (x := n))
  simp only [Int.natCast_add, Int.natCast_mul, Int.natCast_emod, Int.natCast_ediv] at h
  exact h
theorem valB_put (n : Int) (k : Nat) (h : 0 ≤ n) : valB (putB n k) = n % 256 ^ k := by
  obtain ⟨n', rfl⟩ := Int.eq_ofNat_of_zero_le h
  induction k with
  | zero => simp [putB, valB, Int.emod_one]
  | succ k ih =>
    have hp2 : (256 : Int) ^ k = ((256 ^ k : Nat) : Int) := by rw [Int.natCast_pow]; rfl
    have hp3 : (2 : Int) ^ (8 * k) = 256 ^ k := by rw [Int.pow_mul]; rfl
    rw [putB, valB_cons, putB_length, ih, Int.pow_succ]
    unfold byteAt
    rw [IntKind.wrap_u8, hp3, hp2, mod_split]
    rw [Int.mul_comm]; omega
theorem putB_in (n : Int) (s : Nat) : InB (putB n s) := by
  induction s with
  | zero => intro z hz; cases hz
  | succ s ih =>
    intro z hz
    rcases List.mem_cons.1 hz with rfl | h
    · unfold byteAt; rw [IntKind.wrap_u8]; omega
    · exact ih z h
theorem fits_lt (n : Int) (s : Nat) (h : fitsB n s = true) : 1 ≤ s ∧ s ≤ 8 ∧ 0 ≤ n ∧ n ≤ MA ∧ n % 256 ^ s = n := by
  simp only [fitsB, mayB, Bool.and_eq_true, Bool.or_eq_true, decide_eq_true_eq, Int.toNat_natCast] at h
  obtain ⟨⟨⟨h1, h2⟩, h3⟩, h4⟩ := h
  have h3 := (amt_iff n).1 h3
  refine ⟨by omega, by omega, h3.1, h3.2, ?_⟩
  have hp3 : (2 : Int) ^ (8 * s) = 256 ^ s := by rw [Int.pow_mul]; rfl
  rw [hp3] at h4
  rcases h4 with h4 | h4
  · obtain rfl : s = 8 := by omega
    unfold MA at h3
    show n % 18446744073709551616 = n
    omega
  · have hp : (0 : Int) < 256 ^ s := Int.pow_pos (by decide)
    have := Int.ediv_nonneg h3.1 (show (0 : Int) ≤ 256 ^ s by omega)
    have h5 : n / 256 ^ s = 0 := by omega
    have h6 := Int.mul_ediv_add_emod n (256 ^ s)
    rw [h5] at h6; omega
theorem numF_put (n : Int) (s : Nat) (rest : List Int) (h : fitsB n s = true) : numF (putB n s ++ rest) s = (n, 0) := by
  obtain ⟨h1, h2, h3, h4, h5⟩ := fits_lt n s h
  have e1 : mayB (s : Int) = true := by simp [mayB]; omega
  have e2 : ¬ (((putB n s ++ rest).length : Nat) : Int) < (s : Int) := by simp [putB_length]; omega
  have e3 : (putB n s ++ rest).take (s : Int).toNat = putB n s := by
    rw [Int.toNat_natCast]; exact List.take_left' (putB_length n s)
  unfold numF
  rw [if_pos e1, if_neg e2, e3, valB_put n s h3, h5, if_neg (by omega)]
theorem decNum_put (n : Int) (s : Nat) (rest : List Int) (h : fitsB n s = true) : decNum (putB n s ++ rest) 0 s = (n, rest, 0) := by
  unfold decNum
  rw [numF_put n s rest h]
  simp only [if_true, Int.toNat_natCast]
  rw [List.drop_left' (putB_length n s)]
theorem decBytes_put (t rest : List Int) (h : t.length ≤ 65535) : decBytes (putB t.length 2 ++ t ++ rest) 0 = (t, rest, 0) := by
  have hf := fits_len t.length h
  have h2 : numF (putB t.length 2 ++ t ++ rest) 2 = ((t.length : Int), 0) := by
    rw [List.append_assoc]; exact numF_put t.length 2 (t ++ rest) hf
  unfold decBytes
  rw [h2]
  have hl : ¬ (((putB t.length 2 ++ t ++ rest).length : Nat) : Int) < 2 + (t.length : Int) := by simp [putB_length]; omega
  simp only [if_true, if_neg hl, Int.toNat_natCast]
  have e1 : (putB t.length 2 ++ t ++ rest).drop 2 = t ++ rest := by
    rw [List.append_assoc]; exact List.drop_left' (putB_length _ 2)
  have e2 : (putB t.length 2 ++ t ++ rest).drop (2 + t.length) = rest := by
    apply List.drop_left'; simp [putB_length]
  rw [e1, e2, List.take_left' rfl]

def packF (j : Nat) : List (List Int) → List Int
  | [] => []
  | t :: ts => putB t.length 2 ++ t ++ (putB j 3 ++ packF (j + 1) ts)
def readsF (j : Nat) : List (List Int) → List Int → Int → Bool
  | [], zs, e => decEnd zs e == 0
  | t :: ts, zs, e => eqB (decBytes zs e).1 t && ((decNum (decBytes zs e).2.1 (decBytes zs e).2.2 3).1 == (j : Int)) && readsF (j + 1) ts (decNum (decBytes zs e).2.1 (decBytes zs e).2.2 3).2.1 (decNum (decBytes zs e).2.1 (decBytes zs e).2.2 3).2.2

theorem packF_snoc (j : Nat) (ts : List (List Int)) (t : List Int) : packF j (ts ++ [t]) = packF j ts ++ (putB t.length 2 ++ t ++ putB (j + ts.length : Nat) 3) := by
  induction ts generalizing j with
  | nil => simp [packF]
  | cons x ts ih => simp only [List.cons_append, packF, ih, List.length_cons, List.append_assoc]; rw [show j + 1 + ts.length = j + (ts.length + 1) by omega]
theorem fits3 (j : Nat) (h : j ≤ 1000) : fitsB (j : Int) (3 : Nat) = true := by
  have h1 : amtB (j : Int) = true := (amt_iff _).2 ⟨by omega, by unfold MA; omega⟩
  have h2 : (j : Int) / 2 ^ (8 * ((3 : Nat) : Int).toNat) ≤ 0 := by
    show (j : Int) / 16777216 ≤ 0
    omega
  unfold fitsB
  rw [h1, decide_eq_true h2]
  decide
theorem reads_all (ts : List (List Int)) (j : Nat) (rest : List Int) (hj : j + ts.length ≤ 1000) (hl : ∀ t ∈ ts, t.length ≤ 65535) : readsF j ts (packF j ts ++ rest) 0 = (decEnd rest 0 == 0) := by
  induction ts generalizing j with
  | nil => simp [packF, readsF]
  | cons t ts ih =>
    have e1 : decBytes (packF j (t :: ts) ++ rest) 0 = (t, putB j 3 ++ (packF (j + 1) ts ++ rest), 0) := by
      have := decBytes_put t (putB j 3 ++ (packF (j + 1) ts ++ rest)) (hl t (by simp))
      simp only [packF, List.append_assoc] at this ⊢
      exact this
    have e2 := decNum_put j 3 (packF (j + 1) ts ++ rest) (fits3 j (by simp at hj; omega))
    simp only [readsF, e1]
    rw [show ((3 : Nat) : Int) = 3 from rfl] at e2
    rw [e2]
    simp only [eqB_self, beq_self_eq_true, Bool.true_and]
    exact ih (j + 1) (by simp at hj; omega) (fun t ht => hl t (by simp [ht]))
theorem reads_bad (ts : List (List Int)) (j : Nat) (zs : List Int) (e : Int) (he : e ≠ 0) : readsF j ts zs e = false := by
  induction ts generalizing j with
  | nil => simp [readsF, decEnd, he]
  | cons t ts ih =>
    have e1 : decBytes zs e = ([], zs, e) := by simp [decBytes, he]
    have e2 : decNum zs e 3 = (0, zs, e) := by simp [decNum, he]
    simp only [readsF, e1, e2, ih, Bool.and_false]
theorem decNum_short (zs : List Int) (h : zs.length < 3) : decNum zs 0 3 = (0, zs, 2) := by
  have e : numF zs 3 = (0, 2) := by
    unfold numF; rw [if_pos (by decide), if_pos (by omega)]
  simp [decNum, e]
theorem decBytes_short (t : List Int) (c : Nat) (ht : t.length ≤ 65535) (h : c < 2 + t.length) : decBytes ((putB t.length 2 ++ t).take c) 0 = ([], (putB t.length 2 ++ t).take c, 2) := by
  by_cases hc : c < 2
  · have e : numF ((putB t.length 2 ++ t).take c) 2 = (0, 2) := by
      unfold numF; rw [if_pos (by decide), if_pos (by simp; omega)]
    simp [decBytes, e]
  · have e0 : (putB t.length 2 ++ t).take c = putB t.length 2 ++ t.take (c - 2) := by
      rw [List.take_append, putB_length, List.take_of_length_le (by rw [putB_length]; omega)]
    have e : numF ((putB t.length 2 ++ t).take c) 2 = ((t.length : Int), 0) := by
      rw [e0]; exact numF_put t.length 2 _ (fits_len t.length ht)
    have hl : ((((putB t.length 2 ++ t).take c).length : Nat) : Int) < 2 + (t.length : Int) := by simp [putB_length]; omega
    unfold decBytes
    rw [e]
    simp only [if_true, if_pos hl]
theorem reads_cut (ts : List (List Int)) (j c : Nat) (hj : j + ts.length ≤ 1000) (hl : ∀ t ∈ ts, t.length ≤ 65535) (hc : c < (packF j ts).length) : readsF j ts ((packF j ts).take c) 0 = false := by
  induction ts generalizing j c with
  | nil => simp [packF] at hc
  | cons t ts ih =>
    have ht := hl t (by simp)
    have hjl : j ≤ 1000 := by simp at hj; omega
    by_cases h1 : c < 2 + t.length
    · have e0 : (packF j (t :: ts)).take c = (putB t.length 2 ++ t).take c := by
        simp only [packF]
        rw [List.take_append_of_le_length (by simp [putB_length]; omega)]
      simp only [readsF, e0, decBytes_short t c ht h1]
      have e2 : decNum ((putB t.length 2 ++ t).take c) 2 3 = (0, (putB t.length 2 ++ t).take c, 2) := by simp [decNum]
      simp only [e2, reads_bad ts (j + 1) _ 2 (by decide), Bool.and_false]
    · obtain ⟨d, rfl⟩ : ∃ d, c = 2 + t.length + d := ⟨c - (2 + t.length), by omega⟩
      have hla : (putB t.length 2 ++ t).length = 2 + t.length := by simp [putB_length]
      have e0 : (packF j (t :: ts)).take (2 + t.length + d) = putB t.length 2 ++ t ++ (putB j 3 ++ packF (j + 1) ts).take d := by
        simp only [packF]
        rw [List.take_append, hla, List.take_of_length_le (by rw [hla]; omega)]
        rw [show 2 + t.length + d - (2 + t.length) = d by omega]
      simp only [readsF, e0, decBytes_put t _ ht]
      by_cases h2 : d < 3
      · have e2 := decNum_short ((putB j 3 ++ packF (j + 1) ts).take d) (by simp; omega)
        simp only [e2, reads_bad ts (j + 1) _ 2 (by decide), Bool.and_false]
      · have e3 : (putB j 3 ++ packF (j + 1) ts).take d = putB j 3 ++ (packF (j + 1) ts).take (d - 3) := by
          rw [List.take_append, putB_length, List.take_of_length_le (by rw [putB_length]; omega)]
        have e2 := decNum_put j 3 ((packF (j + 1) ts).take (d - 3)) (fits3 j hjl)
        rw [show ((3 : Nat) : Int) = 3 from rfl] at e2
        rw [e3, e2]
        have := ih (j + 1) (d - 3) (by simp at hj; omega) (fun t ht => hl t (by simp [ht])) (by simp [packF, putB_length] at hc; omega)
        simp only [this, Bool.and_false]

end Go.Proofs.Ytbhoakohpfdeoaa
