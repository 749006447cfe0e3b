/- Package frame: the pure frame. -/
import Derived.Test.YteabnagdfecleaaMac1
import Derived.Test.YteabnagdfecleaaDec4
namespace Go.Proofs.Yteabnagdfecleaa
open Go.RowKit
set_option linter.unusedVariables false
set_option linter.unusedSimpArgs false

/-- A frame. -/
structure FR where
  k : Int
  g : Int
  s : Int
  b : List Int
def FR.ok (F : FR) : Prop := (0 ≤ F.k ∧ F.k ≤ 255) ∧ (0 ≤ F.g ∧ F.g ≤ 4294967295) ∧ (0 ≤ F.s ∧ F.s ≤ 4294967295)
instance (F : FR) : Decidable F.ok := by unfold FR.ok; exact inferInstance
def secN (n : Int) : Int := if n < 0 ∨ 60000 < n then 0 else (n + 86) / 63
def headF (F : FR) : List Int := putB 25446 2 ++ putB F.k 1 ++ putB 0 1 ++ putB F.g 4 ++ putB F.s 4 ++ putB F.b.length 4
def textF (F : FR) : List Int := headF F ++ (shaF (headF F ++ F.b)).take 8 ++ F.b
def secF (m : Int) (t : List Int) : List Int := m :: (t.take 63 ++ List.replicate (63 - t.length) 0)
def layN (t : List Int) : Nat → List Int
  | 0 => []
  | j + 1 => layN t j ++ secF 2 (t.drop (63 * j))
def layF (t : List Int) (k : Nat) : List Int := (layN t k).set 0 1
def putF (F : FR) : List Int := layF (textF F) ((F.b.length + 86) / 63)
def putR (F : FR) : List Int × Int := if 60000 < F.b.length then ([], 3) else if F.ok then (putF F, 0) else ([], 1)

theorem headF_len (F : FR) : (headF F).length = 16 := by simp [headF, putB_length]
theorem textF_len (F : FR) : (textF F).length = 24 + F.b.length := by
  unfold textF
  rw [List.length_append, List.length_append, headF_len, List.length_take, shaF_len]
  omega
theorem secF_len (m : Int) (t : List Int) : (secF m t).length = 64 := by simp [secF]; omega
theorem layN_len (t : List Int) : ∀ k, (layN t k).length = 64 * k
  | 0 => rfl
  | k + 1 => by rw [layN, List.length_append, layN_len t k, secF_len]; omega
theorem layF_len (t : List Int) (k : Nat) : (layF t k).length = 64 * k := by rw [layF, List.length_set, layN_len]
theorem putF_len (F : FR) : (putF F).length = 64 * ((F.b.length + 86) / 63) := layF_len _ _
theorem putB_inB (n : Int) : ∀ k, InB (putB n k)
  | 0 => fun z hz => by simp [putB] at hz
  | k + 1 => fun z hz => by
    rw [putB] at hz
    rcases List.mem_cons.1 hz with h | h
    · rw [h]; unfold byteAt; rw [IntKind.wrap_u8']; omega
    · exact putB_inB n k z h
theorem headF_inB (F : FR) : InB (headF F) := by
  unfold headF
  exact inB_app (inB_app (inB_app (inB_app (inB_app (putB_inB _ _) (putB_inB _ _)) (putB_inB _ _)) (putB_inB _ _)) (putB_inB _ _)) (putB_inB _ _)
theorem textF_inB {F : FR} (h : InB F.b) : InB (textF F) := inB_app (inB_app (headF_inB F) (inB_take (shaF_inB _) _)) h
theorem secF_inB {m : Int} {t : List Int} (hm : 0 ≤ m ∧ m ≤ 255) (h : InB t) : InB (secF m t) := fun z hz => by
  rcases List.mem_cons.1 hz with e | e
  · rw [e]; exact hm
  · exact inB_app (inB_take h _) (inB_zeros _) z e
theorem layN_inB {t : List Int} (h : InB t) : ∀ k, InB (layN t k)
  | 0 => fun z hz => by simp [layN] at hz
  | k + 1 => inB_app (layN_inB h k) (secF_inB (by omega) (inB_drop h _))
theorem layF_inB {t : List Int} (h : InB t) (k : Nat) : InB (layF t k) := fun z hz => by
  rcases List.mem_or_eq_of_mem_set hz with e | e
  · exact layN_inB h k z e
  · omega
theorem putF_inB {F : FR} (h : InB F.b) : InB (putF F) := layF_inB (textF_inB h) _
theorem secN_nat (n : Nat) (h : n ≤ 60000) : secN n = (((n + 86) / 63 : Nat) : Int) := by
  unfold secN
  rw [if_neg (by omega)]
  omega

/-- What one round of Put lays. -/
theorem splice_at (A C Z : List Int) (hC : C.length ≤ 63) : splice (A ++ (2 :: (List.replicate 63 0 ++ Z))) (A.length + 1) C = A ++ (2 :: (C ++ List.replicate (63 - C.length) 0)) ++ Z := by
  unfold splice
  rw [List.take_append, List.drop_append, List.take_of_length_le (by omega), List.drop_eq_nil_of_le (by omega)]
  rw [show A.length + 1 - A.length = 1 by omega, show A.length + 1 + C.length - A.length = C.length + 1 by omega]
  simp only [List.take_succ_cons, List.take_zero, List.drop_succ_cons, List.nil_append, List.append_assoc, List.cons_append]
  rw [List.drop_append, List.length_replicate, List.drop_replicate, show C.length - 63 = 0 by omega, List.drop_zero]
theorem rep_set (m : Nat) : (List.replicate (64 * (m + 1)) (0 : Int)).set 0 2 = 2 :: (List.replicate 63 0 ++ List.replicate (64 * m) 0) := by
  have e : 64 * (m + 1) = (63 + 64 * m) + 1 := by omega
  rw [e, List.replicate_succ, List.set_cons_zero, List.replicate_append_replicate]
theorem set_at (A : List Int) (m : Nat) : (A ++ List.replicate (64 * (m + 1)) 0).set A.length 2 = A ++ (2 :: (List.replicate 63 0 ++ List.replicate (64 * m) 0)) := by
  rw [List.set_append_right _ _ (Nat.le_refl _), Nat.sub_self, rep_set]
theorem lay_step (t : List Int) (k j : Nat) (hj : j < k) : splice ((layN t j ++ List.replicate (64 * (k - j)) 0).set (64 * j) 2) (64 * j + 1) ((t.drop (63 * j)).take 63) = layN t (j + 1) ++ List.replicate (64 * (k - (j + 1))) 0 := by
  have h1 : k - j = (k - (j + 1)) + 1 := by omega
  have h2 := layN_len t j
  rw [h1, ← h2, set_at, splice_at _ _ _ (by rw [List.length_take]; omega), layN, secF]
  congr 4
  congr 1
  rw [List.length_take]
  omega
theorem splice_map {α β : Type} (f : α → β) (L C : List α) (o : Nat) : splice (L.map f) o (C.map f) = (splice L o C).map f := by
  unfold splice
  rw [List.map_append, List.map_append, List.map_take, List.map_drop, List.length_map]

end Go.Proofs.Yteabnagdfecleaa
