/- Package frame: the pure law of laying and reading. -/
import Derived.Test.YteabnagdfecleaaFrP
import Derived.Test.YteabnagdfecleaaPack
namespace Go.Proofs.Yteabnagdfecleaa
open Go.RowKit
set_option linter.unusedVariables false
set_option linter.unusedSimpArgs false

/-- Laid with marks. -/
def markI (j : Nat) : Int := if j = 0 then 1 else 2
def layM (t : List Int) : Nat → List Int
  | 0 => []
  | j + 1 => layM t j ++ secF (markI j) (t.drop (63 * j))
/-- As the document lays: the last sector is not filled. -/
def layR (t : List Int) : Nat → List Int
  | 0 => []
  | j + 1 => layR t j ++ (markI j :: (t.drop (63 * j)).take 63)
theorem layM_len (t : List Int) : ∀ k, (layM t k).length = 64 * k
  | 0 => rfl
  | k + 1 => by rw [layM, List.length_append, layM_len t k, secF_len]; omega
theorem layM_eq (t : List Int) : ∀ k, layM t k = layF t k
  | 0 => rfl
  | 1 => by simp [layM, layF, layN, markI, secF]
  | k + 2 => by
    have h := layM_eq t (k + 1)
    have hl := layN_len t (k + 1)
    have e1 : layN t (k + 2) = layN t (k + 1) ++ secF 2 (t.drop (63 * (k + 1))) := rfl
    have e2 : layM t (k + 2) = layM t (k + 1) ++ secF (markI (k + 1)) (t.drop (63 * (k + 1))) := rfl
    rw [e2, h]
    unfold layF
    rw [e1, List.set_append_left _ _ (by rw [hl]; omega)]
    rfl
theorem layR_full (t : List Int) : ∀ j, 63 * j ≤ t.length → layR t j = layM t j
  | 0, _ => rfl
  | j + 1, h => by
    rw [layR, layM, layR_full t j (by omega), secF]
    congr 2
    have : 63 - (t.drop (63 * j)).length = 0 := by rw [List.length_drop]; omega
    rw [this]
    simp
theorem layR_len (t : List Int) : ∀ j, (layR t j).length = j + min t.length (63 * j)
  | 0 => by simp [layR]
  | j + 1 => by
    rw [layR, List.length_append, layR_len t j, List.length_cons, List.length_take, List.length_drop]
    omega
theorem layR_last (t : List Int) (k : Nat) (h0 : 63 * k < t.length) (h1 : t.length ≤ 63 * (k + 1)) : layR t (k + 1) ++ List.replicate (63 * (k + 1) - t.length) 0 = layF t (k + 1) := by
  have e : 63 * (k + 1) - t.length = 63 - (t.drop (63 * k)).length := by rw [List.length_drop]; omega
  rw [← layM_eq, layR, layM, layR_full t k (by omega), secF, List.append_assoc, List.cons_append, e]

end Go.Proofs.Yteabnagdfecleaa
namespace Go.Proofs.Yteabnagdfecleaa
open Go.RowKit
set_option linter.unusedVariables false
set_option linter.unusedSimpArgs false

/-- The text of so many sectors; their marks; what lifts tells. -/
def catS (zs : List Int) : Nat → List Int
  | 0 => []
  | k + 1 => catS zs k ++ (zs.drop (64 * k + 1)).take 63
def markOk (zs : List Int) : Nat → Bool
  | 0 => true
  | k + 1 => markOk zs k && (zs.getD (64 * k) 0 == markI k)
def liftF (zs : List Int) (n : Nat) : List Int × Bool := if zs.length < 64 * n then ([], false) else if markOk zs n then (catS zs n, true) else ([], false)
def hdF (zs : List Int) (i s : Nat) : Int := valB ((zs.drop i).take s)
def noF : FR := ⟨0, 0, 0, []⟩
def getN (zs : List Int) : Int := hdF zs 13 4
def getK (zs : List Int) : Nat := (secN (getN zs)).toNat
def getX (zs : List Int) : FR := ⟨hdF zs 3 1, hdF zs 5 4, hdF zs 9 4, ((catS zs (getK zs)).drop 24).take (getN zs).toNat⟩
def getF (zs : List Int) : FR × Int × Int :=
  if zs.length < 64 ∨ zs.getD 0 0 ≠ 1 ∨ 60000 < getN zs ∨ zs.length < 64 * getK zs then (noF, 0, 2)
  else if putF (getX zs) = zs.take (64 * getK zs) then (getX zs, secN (getN zs), 0) else (noF, 0, 2)

theorem catS_len (zs : List Int) : ∀ k, 64 * k ≤ zs.length → (catS zs k).length = 63 * k
  | 0, _ => rfl
  | k + 1, h => by
    rw [catS, List.length_append, catS_len zs k (by omega), List.length_take, List.length_drop]
    omega
theorem catS_inB {zs : List Int} (h : InB zs) : ∀ k, InB (catS zs k)
  | 0 => fun z hz => by simp [catS] at hz
  | k + 1 => inB_app (catS_inB h k) (inB_take (inB_drop h _) _)
theorem hdF_in {zs : List Int} (h : InB zs) (i s : Nat) (hl : i + s ≤ zs.length) : 0 ≤ hdF zs i s ∧ hdF zs i s < 256 ^ s := by
  have := valB_in ((zs.drop i).take s) (inB_take (inB_drop h i) s)
  rw [List.length_take, List.length_drop, Nat.min_eq_left (by omega)] at this
  exact this
theorem hdF_1 {zs : List Int} (h : InB zs) (i : Nat) (hl : i + 1 ≤ zs.length) : 0 ≤ hdF zs i 1 ∧ hdF zs i 1 ≤ 255 := by
  have := hdF_in h i 1 hl
  have e : (256 : Int) ^ 1 = 256 := by decide
  rw [e] at this
  omega
theorem hdF_4 {zs : List Int} (h : InB zs) (i : Nat) (hl : i + 4 ≤ zs.length) : 0 ≤ hdF zs i 4 ∧ hdF zs i 4 ≤ 4294967295 := by
  have := hdF_in h i 4 hl
  have e : (256 : Int) ^ 4 = 4294967296 := by decide
  rw [e] at this
  omega
theorem secN_in (n : Int) : 0 ≤ secN n ∧ secN n ≤ 953 := by
  unfold secN
  split
  · omega
  · omega
theorem secN_pos {n : Int} (h0 : 0 ≤ n) (h1 : n ≤ 60000) : 1 ≤ secN n ∧ 24 + n ≤ 63 * secN n ∧ 63 * (secN n - 1) < 24 + n := by
  unfold secN
  rw [if_neg (by omega)]
  omega

/-- What was laid is got. -/
theorem layM_at (t : List Int) : ∀ k j, j < k → ((layM t k).drop (64 * j)).take 64 = secF (markI j) (t.drop (63 * j))
  | 0, j, h => by omega
  | k + 1, j, h => by
    have hl := layM_len t k
    rw [layM]
    by_cases e : j < k
    · rw [List.drop_append_of_le_length (by omega), List.take_append_of_le_length (by rw [List.length_drop]; omega)]
      exact layM_at t k j e
    · obtain rfl : j = k := by omega
      rw [← hl, List.drop_left, List.take_of_length_le (by rw [secF_len]; omega)]
theorem layM_app (t rest : List Int) (k j : Nat) (h : j < k) : ((layM t k ++ rest).drop (64 * j)).take 64 = secF (markI j) (t.drop (63 * j)) := by
  have hl := layM_len t k
  rw [List.drop_append_of_le_length (by omega), List.take_append_of_le_length (by rw [List.length_drop]; omega)]
  exact layM_at t k j h
theorem catM (t rest : List Int) (k : Nat) : ∀ j, j ≤ k → catS (layM t k ++ rest) j = t.take (63 * j) ++ List.replicate (63 * j - t.length) 0
  | 0, _ => by simp [catS]
  | j + 1, h => by
    have hs := layM_app t rest k j (by omega)
    have h2 : ((layM t k ++ rest).drop (64 * j + 1)).take 63 = (t.drop (63 * j)).take 63 ++ List.replicate (63 - (t.drop (63 * j)).length) 0 := by
      have : ((layM t k ++ rest).drop (64 * j + 1)).take 63 = (((layM t k ++ rest).drop (64 * j)).take 64).drop 1 := by
        rw [List.drop_take, List.drop_drop]
      rw [this, hs, secF]
      rfl
    rw [catS, catM t rest k j (by omega), h2, List.length_drop]
    by_cases e : 63 * j ≤ t.length
    · have e1 : 63 * j - t.length = 0 := by omega
      have e2 : 63 - (t.length - 63 * j) = 63 * (j + 1) - t.length := by omega
      rw [e1, e2, List.replicate_zero, List.append_nil, ← List.append_assoc]
      congr 1
      rw [show 63 * (j + 1) = 63 * j + 63 by omega, List.take_add]
    · have e1 : t.drop (63 * j) = [] := List.drop_eq_nil_of_le (by omega)
      rw [e1, List.take_nil, List.nil_append, List.append_assoc, List.replicate_append_replicate, List.take_of_length_le (by omega), List.take_of_length_le (by omega)]
      congr 2
      omega
theorem take_in {α : Type} {xs ys : List α} {m : Nat} (h : xs.take m = ys) (i s : Nat) (hi : i + s ≤ m) : (xs.drop i).take s = (ys.drop i).take s := by
  rw [← h, List.drop_take, List.take_take, Nat.min_eq_left (by omega)]
theorem headF_at (F : FR) : headF F = [byteAt 25446 1, byteAt 25446 0, byteAt F.k 0, byteAt 0 0, byteAt F.g 3, byteAt F.g 2, byteAt F.g 1, byteAt F.g 0, byteAt F.s 3, byteAt F.s 2, byteAt F.s 1, byteAt F.s 0, byteAt F.b.length 3, byteAt F.b.length 2, byteAt F.b.length 1, byteAt F.b.length 0] := rfl
theorem put1 {n : Int} (h : 0 ≤ n ∧ n ≤ 255) : valB (putB n 1) = n := by
  rw [valB_put n 1 h.1]
  have e : (256 : Int) ^ 1 = 256 := by decide
  rw [e]; omega
theorem put4 {n : Int} (h : 0 ≤ n ∧ n ≤ 4294967295) : valB (putB n 4) = n := by
  rw [valB_put n 4 h.1]
  have e : (256 : Int) ^ 4 = 4294967296 := by decide
  rw [e]; omega
section
variable {F : FR} {rest : List Int}
theorem putF_M (F : FR) : putF F = layM (textF F) ((F.b.length + 86) / 63) := by rw [putF, layM_eq]
theorem put_take17 (hl : F.b.length ≤ 60000) : (putF F ++ rest).take 17 = 1 :: headF F := by
  have h := layM_app (textF F) rest ((F.b.length + 86) / 63) 0 (by omega)
  rw [← putF_M] at h
  simp only [Nat.mul_zero, List.drop_zero] at h
  have h2 : (putF F ++ rest).take 17 = ((putF F ++ rest).take 64).take 17 := by rw [List.take_take]; rfl
  rw [h2, h, secF]
  show ((1 : Int) :: _).take 17 = _
  rw [List.take_succ_cons]
  congr 1
theorem put_hd (hl : F.b.length ≤ 60000) (i s : Nat) (hi : i + s ≤ 17) : hdF (putF F ++ rest) i s = valB (((1 :: headF F).drop i).take s) := by
  unfold hdF
  rw [take_in (put_take17 (rest := rest) hl) i s hi]
theorem hd_of_take {zs : List Int} (hl : F.b.length ≤ 60000) (h : zs.take 17 = (putF F).take 17) (i s : Nat) (hi : i + s ≤ 17) : hdF zs i s = valB (((1 :: headF F).drop i).take s) := by
  have h2 : (putF F).take 17 = 1 :: headF F := by
    have := put_take17 (F := F) (rest := []) hl
    rwa [List.append_nil] at this
  unfold hdF
  rw [take_in (h.trans h2) i s hi]
theorem hd_n {zs : List Int} (hl : F.b.length ≤ 60000) (h : zs.take 17 = (putF F).take 17) : getN zs = F.b.length := by
  unfold getN
  rw [hd_of_take hl h 13 4 (by omega), headF_at]
  show valB (putB (F.b.length : Int) 4) = _
  exact put4 (by omega)
theorem hd_k {zs : List Int} (hl : F.b.length ≤ 60000) (h : zs.take 17 = (putF F).take 17) (hF : F.ok) : hdF zs 3 1 = F.k := by
  rw [hd_of_take hl h 3 1 (by omega), headF_at]
  show valB (putB F.k 1) = _
  exact put1 hF.1
theorem hd_g {zs : List Int} (hl : F.b.length ≤ 60000) (h : zs.take 17 = (putF F).take 17) (hF : F.ok) : hdF zs 5 4 = F.g := by
  rw [hd_of_take hl h 5 4 (by omega), headF_at]
  show valB (putB F.g 4) = _
  exact put4 hF.2.1
theorem hd_s {zs : List Int} (hl : F.b.length ≤ 60000) (h : zs.take 17 = (putF F).take 17) (hF : F.ok) : hdF zs 9 4 = F.s := by
  rw [hd_of_take hl h 9 4 (by omega), headF_at]
  show valB (putB F.s 4) = _
  exact put4 hF.2.2
theorem put_sec (hl : F.b.length ≤ 60000) {zs : List Int} (h : zs.take 17 = (putF F).take 17) : getK zs = (F.b.length + 86) / 63 := by
  unfold getK
  rw [hd_n hl h, secN_nat _ hl, Int.toNat_natCast]
theorem put_mark0 (hl : F.b.length ≤ 60000) : (putF F ++ rest).getD 0 0 = 1 := by
  have h := put_take17 (F := F) (rest := rest) hl
  cases hq : putF F ++ rest with
  | nil => rw [hq] at h; simp at h
  | cons a l => rw [hq, List.take_succ_cons] at h; simp only [List.cons.injEq] at h; simp [h.1]
theorem getF_put (hl : F.b.length ≤ 60000) (hF : F.ok) (rest : List Int) : getF (putF F ++ rest) = (F, secN F.b.length, 0) := by
  have hlen := putF_len F
  have h17 : (putF F ++ rest).take 17 = (putF F).take 17 := by rw [List.take_append_of_le_length (by omega)]
  have hn := hd_n hl h17
  have hk := put_sec hl h17
  have hX : getX (putF F ++ rest) = F := by
    unfold getX
    rw [hk, hn, hd_k hl h17 hF, hd_g hl h17 hF, hd_s hl h17 hF, putF_M, catM _ _ _ _ (Nat.le_refl _), Int.toNat_natCast]
    have e1 : (textF F).take (63 * ((F.b.length + 86) / 63)) = textF F := List.take_of_length_le (by rw [textF_len]; omega)
    have e2 : textF F = (headF F ++ (shaF (headF F ++ F.b)).take 8) ++ F.b := rfl
    have e3 : (headF F ++ (shaF (headF F ++ F.b)).take 8).length = 24 := by rw [List.length_append, headF_len, List.length_take, shaF_len]; rfl
    rw [e1, e2, List.append_assoc, ← e3, List.drop_left, List.take_left]
  unfold getF
  rw [if_neg, hX, hk, hn, if_pos]
  · rw [← hlen, List.take_left]
  · rw [hk, hn, put_mark0 hl, List.length_append]
    omega
theorem getF_mark {zs : List Int} (h : zs.getD 0 0 ≠ 1) : getF zs = (noF, 0, 2) := by
  unfold getF
  rw [if_pos (Or.inr (Or.inl h))]
theorem put_marks (F : FR) (rest : List Int) (j : Nat) (hj : j < (F.b.length + 86) / 63) : (putF F ++ rest).getD (64 * j) 0 = markI j := by
  have h := layM_app (textF F) rest _ j hj
  rw [← putF_M] at h
  have h2 : (((putF F ++ rest).drop (64 * j)).take 64).getD 0 0 = (putF F ++ rest).getD (64 * j) 0 := by
    simp [List.getD, List.getElem?_take, List.getElem?_drop]
  rw [← h2, h]
  rfl
theorem getF_other (F : FR) (rest : List Int) (j : Nat) (h0 : 0 < j) (hj : j < (F.b.length + 86) / 63) : getF ((putF F ++ rest).drop (64 * j)) = (noF, 0, 2) := by
  apply getF_mark
  have e : ((putF F ++ rest).drop (64 * j)).getD 0 0 = (putF F ++ rest).getD (64 * j) 0 := by simp [List.getD, List.getElem?_drop]
  rw [e, put_marks F rest j hj]
  unfold markI
  rw [if_neg (by omega)]
  decide
theorem getF_short (hl : F.b.length ≤ 60000) (m : Nat) (hm : m < (putF F).length) : getF ((putF F).take m) = (noF, 0, 2) := by
  have hlen := putF_len F
  unfold getF
  rw [if_pos]
  by_cases h : m < 64
  · left; rw [List.length_take]; omega
  · have h17 : ((putF F).take m).take 17 = (putF F).take 17 := by rw [List.take_take, Nat.min_eq_left (by omega)]
    right; right; right
    rw [put_sec hl h17, List.length_take]
    omega
end
/-- Every error is the one. -/
theorem getF_err (zs : List Int) : (getF zs).2.2 = 0 ∨ (getF zs).2.2 = 2 := by
  unfold getF
  split
  · exact Or.inr rfl
  · split
    · exact Or.inl rfl
    · exact Or.inr rfl
theorem getX_ok {zs : List Int} (h : InB zs) (hl : 64 ≤ zs.length) : (getX zs).ok := ⟨hdF_1 h 3 (by omega), hdF_4 h 5 (by omega), hdF_4 h 9 (by omega)⟩
theorem getN_in {zs : List Int} (h : InB zs) (hl : 64 ≤ zs.length) : 0 ≤ getN zs ∧ getN zs ≤ 4294967295 := hdF_4 h 13 (by omega)
theorem getX_len {zs : List Int} (h : InB zs) (hl : 64 ≤ zs.length) (hn : getN zs ≤ 60000) (hk : 64 * getK zs ≤ zs.length) : ((getX zs).b.length : Int) = getN zs ∧ ((getX zs).b.length + 86) / 63 = getK zs ∧ (getX zs).b.length ≤ 60000 := by
  have h0 := getN_in h hl
  have h1 := secN_pos h0.1 hn
  have h2 : (getX zs).b.length = (getN zs).toNat := by
    show (((catS zs (getK zs)).drop 24).take (getN zs).toNat).length = _
    rw [List.length_take, List.length_drop, catS_len zs _ hk]
    unfold getK
    omega
  have h3 : getK zs = (secN (getN zs)).toNat := rfl
  have h4 : secN (getN zs) = (getN zs + 86) / 63 := by unfold secN; rw [if_neg (by omega)]
  rw [h2, h3, h4]
  omega
/-- A wrong mark: it is none. -/
theorem mark_of_put {F : FR} {zs : List Int} {k : Nat} (hk : (F.b.length + 86) / 63 = k) (h : putF F = zs.take (64 * k)) : ∀ j, j ≤ k → markOk zs j = true
  | 0, _ => rfl
  | j + 1, hj => by
    rw [markOk, mark_of_put hk h j (by omega), Bool.true_and]
    have h1 := put_marks F [] j (by omega)
    rw [List.append_nil, h] at h1
    have h2 : (zs.take (64 * k)).getD (64 * j) 0 = zs.getD (64 * j) 0 := by
      simp only [List.getD, List.getElem?_take]
      rw [if_pos (by omega)]
    rw [← h2, h1]
    simp

end Go.Proofs.Yteabnagdfecleaa
