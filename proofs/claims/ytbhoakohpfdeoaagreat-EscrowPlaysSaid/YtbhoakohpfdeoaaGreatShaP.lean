/- SHA-256, plainly: blocks taken one behind the other, the state and what is left. -/
import Derived.Test.YtbhoakohpfdeoaaGreatSha6d
namespace Go.Proofs.YtbhoakohpfdeoaaGreat
open Go.RowKit
set_option linter.unusedVariables false
set_option linter.unusedSimpArgs false

def hInit : List Int := [hAt 0, hAt 1, hAt 2, hAt 3, hAt 4, hAt 5, hAt 6, hAt 7]
def absN : Nat → List Int → List Int → List Int × List Int
  | 0, hs, bs => (hs, bs)
  | n + 1, hs, bs => absN n (mixF hs (bs.take 64)) (bs.drop 64)
def absF (hs bs : List Int) : List Int × List Int := absN (bs.length / 64) hs bs
theorem absN_two : ∀ (n : Nat) (hs bs : List Int), (absN n hs bs).2 = bs.drop (64 * n)
  | 0, hs, bs => by simp [absN]
  | n + 1, hs, bs => by
    unfold absN
    rw [absN_two n, List.drop_drop]
    congr 1; omega
theorem absN_app : ∀ (n : Nat) (hs xs ys : List Int), 64 * n ≤ xs.length → absN n hs (xs ++ ys) = ((absN n hs xs).1, (absN n hs xs).2 ++ ys)
  | 0, hs, xs, ys, _ => rfl
  | n + 1, hs, xs, ys, h => by
    unfold absN
    rw [List.take_append_of_le_length (by omega), List.drop_append_of_le_length (by omega), absN_app n _ _ _ (by simp; omega)]
theorem absN_add : ∀ (n m : Nat) (hs bs : List Int), absN (n + m) hs bs = absN m (absN n hs bs).1 (absN n hs bs).2
  | 0, m, hs, bs => by simp [absN]
  | n + 1, m, hs, bs => by
    rw [show n + 1 + m = (n + m) + 1 by omega]
    show absN (n + m) _ _ = _
    rw [absN_add n m]
    rfl
theorem absN_succ (n : Nat) (hs bs : List Int) : absN (n + 1) hs bs = (mixF (absN n hs bs).1 ((bs.drop (64 * n)).take 64), bs.drop (64 * (n + 1))) := by
  rw [absN_add n 1]
  have h2 := absN_two n hs bs
  generalize absN n hs bs = x at *
  obtain ⟨a, b⟩ := x
  subst h2
  show (mixF a _, _) = _
  rw [List.drop_drop]
  rfl
theorem absF_two (hs bs : List Int) : (absF hs bs).2 = bs.drop (64 * (bs.length / 64)) := absN_two _ _ _
theorem absF_len (hs bs : List Int) : (absF hs bs).2.length = bs.length % 64 := by
  rw [absF_two]; simp; omega
theorem absF_app (hs xs ys : List Int) : absF hs (xs ++ ys) = absF (absF hs xs).1 ((absF hs xs).2 ++ ys) := by
  have hl := absF_len hs xs
  have e : (xs ++ ys).length / 64 = xs.length / 64 + ((absF hs xs).2 ++ ys).length / 64 := by
    simp only [List.length_append, hl]; omega
  show absN _ _ _ = absN _ _ _
  rw [e, absN_add, absN_app _ _ _ _ (by omega)]
  rfl
theorem mixF_len (hs bs : List Int) (h : hs.length = 8) : (mixF hs bs).length = 8 := by
  unfold mixF
  rw [List.length_zipWith, vRun_len _ _ h, h]; rfl
theorem mixF_in (hs bs : List Int) (j : Nat) : InU ((mixF hs bs).getD j 0) := by
  unfold mixF
  simp only [List.getD, List.getElem?_zipWith]
  split
  · exact inU_mod _
  · exact ⟨by decide, by decide⟩
theorem absN_len : ∀ (n : Nat) (hs bs : List Int), hs.length = 8 → (absN n hs bs).1.length = 8
  | 0, hs, bs, h => h
  | n + 1, hs, bs, h => absN_len n _ _ (mixF_len hs _ h)
theorem absN_in : ∀ (n : Nat) (hs bs : List Int), (∀ j, InU (hs.getD j 0)) → ∀ j, InU ((absN n hs bs).1.getD j 0)
  | 0, hs, bs, h => h
  | n + 1, hs, bs, h => absN_in n _ _ (mixF_in hs _)
theorem hAt_in (i : Nat) : InU (hAt i) := by
  unfold hAt hWord
  exact ⟨by omega, by omega⟩
theorem hInit_in (j : Nat) : InU (hInit.getD j 0) := by
  match j with
  | 0 => exact hAt_in 0
  | 1 => exact hAt_in 1
  | 2 => exact hAt_in 2
  | 3 => exact hAt_in 3
  | 4 => exact hAt_in 4
  | 5 => exact hAt_in 5
  | 6 => exact hAt_in 6
  | 7 => exact hAt_in 7
  | j + 8 => exact ⟨by simp [hInit], by simp [hInit]⟩
theorem hInit_len : hInit.length = 8 := rfl
/-- The state behind a text, and what is left of it. -/
def stH (all : List Int) : List Int := (absF hInit all).1
def stR (all : List Int) : List Int := (absF hInit all).2
theorem stH_len (all : List Int) : (stH all).length = 8 := absN_len _ _ _ hInit_len
theorem stH_in (all : List Int) (j : Nat) : InU ((stH all).getD j 0) := absN_in _ _ _ hInit_in j
theorem stR_len (all : List Int) : (stR all).length = all.length % 64 := absF_len _ _
theorem stR_eq (all : List Int) : stR all = all.drop (64 * (all.length / 64)) := absF_two _ _
theorem st_app (all bs : List Int) : (stH (all ++ bs), stR (all ++ bs)) = absF (stH all) (stR all ++ bs) := by
  show ((absF _ _).1, (absF _ _).2) = _
  rw [absF_app]; rfl
/-- A number's bytes, the greatest first. -/
def bytesBE (n : Int) : Nat → List Int
  | 0 => []
  | k + 1 => (n / 256 ^ k % 256) :: bytesBE n k
theorem bytesBE_len (n : Int) : ∀ k, (bytesBE n k).length = k
  | 0 => rfl
  | k + 1 => by simp [bytesBE, bytesBE_len n k]
/-- How many noughts: till eight bytes are lacking. -/
def padN (n : Nat) : Nat := (119 - n % 64) % 64
def padF (all : List Int) : List Int := stR all ++ ([128] ++ List.replicate (padN (all.length)) 0 ++ bytesBE (8 * (all.length : Int) % 18446744073709551616) 8)
def outF (hs : List Int) : List Int := hs.flatMap (fun h => bytesBE h 4)
def shaF (all : List Int) : List Int := outF (absF (stH all) (padF all)).1
theorem padF_len (all : List Int) : (padF all).length % 64 = 0 := by
  unfold padF padN
  simp only [List.length_append, stR_len, bytesBE_len, List.length_replicate, List.length_cons, List.length_nil]
  omega
theorem outF_len (hs : List Int) : (outF hs).length = 4 * hs.length := by
  unfold outF
  induction hs with
  | nil => rfl
  | cons h hs ih => simp only [List.flatMap_cons, List.length_append, bytesBE_len, ih, List.length_cons]; omega
theorem shaF_len (all : List Int) : (shaF all).length = 32 := by
  unfold shaF
  rw [outF_len, show ((absF (stH all) (padF all)).1).length = 8 from absN_len _ _ _ (stH_len all)]

end Go.Proofs.YtbhoakohpfdeoaaGreat
