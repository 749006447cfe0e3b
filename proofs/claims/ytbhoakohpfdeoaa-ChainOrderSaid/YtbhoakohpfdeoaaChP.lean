/- Package chain: the pure log. -/
import Derived.Test.YtbhoakohpfdeoaaGen
namespace Go.Proofs.Ytbhoakohpfdeoaa
open Go.RowKit
set_option linter.unusedVariables false
set_option linter.unusedSimpArgs false

/-- An entry. -/
structure ER where
  k : Int
  b : List Int
def badF (e : ER) : Int := if 0 ≤ e.k ∧ e.k ≤ 255 then (if 60000 < e.b.length then 3 else 0) else 1
def ER.ok (e : ER) : Prop := (0 ≤ e.k ∧ e.k ≤ 255) ∧ e.b.length ≤ 60000
theorem badF_ok (e : ER) : badF e = 0 ↔ e.ok := by
  unfold badF ER.ok
  by_cases h1 : 0 ≤ e.k ∧ e.k ≤ 255
  · rw [if_pos h1]
    by_cases h2 : 60000 < e.b.length
    · rw [if_pos h2]; constructor
      · intro h; cases h
      · intro h; omega
    · rw [if_neg h2]; exact ⟨fun _ => ⟨h1, by omega⟩, fun _ => rfl⟩
  · rw [if_neg h1]; constructor
    · intro h; cases h
    · intro h; exact absurd h.1 h1
def startC (e : ER) : List Int := putB e.k 1 ++ putB e.b.length 4
def nextC (h : List Int) (e : ER) : List Int := shaF (h ++ startC e ++ e.b)
def zero32 : List Int := List.replicate 32 0
def headC (l : List ER) : List Int := l.foldl nextC zero32
def bodyC (l : List ER) : List Int := l.flatMap (fun e => startC e ++ e.b)
def firstBad : List ER → Int
  | [] => 0
  | e :: l => if badF e = 0 then firstBad l else badF e
def exportF (l : List ER) : List Int × Int := if firstBad l = 0 then (if 65535 < l.length then ([], 12) else (headC l ++ putB l.length 2 ++ bodyC l, 0)) else ([], firstBad l)
def parseC : Nat → List Int → Option (List ER × List Int)
  | 0, zs => some ([], zs)
  | n + 1, zs =>
    if zs.length < 5 then none
    else if 60000 < hdF zs 1 4 ∨ (zs.length : Int) - 5 < hdF zs 1 4 then none
    else match parseC n (zs.drop (5 + (hdF zs 1 4).toNat)) with
      | none => none
      | some (l, rest) => some (⟨hdF zs 0 1, (zs.drop 5).take (hdF zs 1 4).toNat⟩ :: l, rest)
def importF (zs : List Int) : List ER × Int :=
  if zs.length < 34 then ([], 2)
  else match parseC (hdF zs 32 2).toNat (zs.drop 34) with
    | none => ([], 2)
    | some (l, rest) => if rest = [] then (if headC l = zs.take 32 then (l, 0) else ([], 17)) else ([], 2)
def sameC (l m : List ER) : Bool := decide (l.length = m.length) && (l.zip m).all (fun p => (p.1.k == p.2.k) && eqB p.1.b p.2.b)

theorem startC_len (e : ER) : (startC e).length = 5 := by simp [startC, putB_length]
theorem startC_inB (e : ER) : InB (startC e) := inB_app (putB_in _ _) (putB_in _ _)
theorem nextC_len (h : List Int) (e : ER) : (nextC h e).length = 32 := shaF_len _
theorem nextC_inB (h : List Int) (e : ER) : InB (nextC h e) := shaF_inB _
theorem headC_nil : headC [] = zero32 := rfl
theorem headC_snoc (l : List ER) (e : ER) : headC (l ++ [e]) = nextC (headC l) e := by unfold headC; rw [List.foldl_append]; rfl
theorem headC_len (l : List ER) : (headC l).length = 32 := by
  rcases List.eq_nil_or_concat l with rfl | ⟨l', e, rfl⟩
  · rfl
  · rw [List.concat_eq_append, headC_snoc, nextC_len]
theorem headC_inB (l : List ER) : InB (headC l) := by
  rcases List.eq_nil_or_concat l with rfl | ⟨l', e, rfl⟩
  · exact inB_zeros 32
  · rw [List.concat_eq_append, headC_snoc]; exact nextC_inB _ _
theorem bodyC_snoc (l : List ER) (e : ER) : bodyC (l ++ [e]) = bodyC l ++ (startC e ++ e.b) := by simp [bodyC]
theorem bodyC_inB {l : List ER} (h : ∀ e ∈ l, InB e.b) : InB (bodyC l) := fun z hz => by
  obtain ⟨e, he, hz⟩ := List.mem_flatMap.1 hz
  rcases List.mem_append.1 hz with h1 | h1
  · exact startC_inB e z h1
  · exact h e he z h1
def sumC (l : List ER) : Nat := (l.map (fun e => e.b.length)).sum
theorem bodyC_len (l : List ER) : (bodyC l).length = 5 * l.length + sumC l := by
  induction l with
  | nil => rfl
  | cons e l ih =>
    have h : bodyC (e :: l) = startC e ++ e.b ++ bodyC l := by simp [bodyC]
    have h2 : sumC (e :: l) = e.b.length + sumC l := by simp [sumC]
    rw [h, h2, List.length_append, List.length_append, startC_len, ih, List.length_cons]
    omega
theorem firstBad_ok (l : List ER) : firstBad l = 0 ↔ ∀ e ∈ l, e.ok := by
  induction l with
  | nil => simp [firstBad]
  | cons e l ih =>
    rw [firstBad]
    by_cases h : badF e = 0
    · rw [if_pos h, ih]
      simp [(badF_ok e).1 h]
    · rw [if_neg h]
      constructor
      · intro h2; exact absurd h2 h
      · intro h2; exact absurd ((badF_ok e).2 (h2 e (by simp))) h
theorem start_at (e : ER) : startC e = [byteAt e.k 0, byteAt e.b.length 3, byteAt e.b.length 2, byteAt e.b.length 1, byteAt e.b.length 0] := rfl
theorem hd_app {xs ys : List Int} (i s : Nat) (h : i + s ≤ xs.length) : hdF (xs ++ ys) i s = valB ((xs.drop i).take s) := by
  unfold hdF
  rw [List.drop_append_of_le_length (by omega), List.take_append_of_le_length (by rw [List.length_drop]; omega)]
theorem hd_start0 {e : ER} (he : e.ok) (ys : List Int) : hdF (startC e ++ ys) 0 1 = e.k := by
  rw [hd_app 0 1 (by rw [startC_len]; omega), start_at]
  show valB (putB e.k 1) = _
  exact put1 he.1
theorem hd_start1 {e : ER} (he : e.ok) (ys : List Int) : hdF (startC e ++ ys) 1 4 = e.b.length := by
  rw [hd_app 1 4 (by rw [startC_len]; omega), start_at]
  show valB (putB (e.b.length : Int) 4) = _
  exact put4 (by have := he.2; omega)
/-- What was laid is parsed. -/
theorem parse_body : ∀ (l : List ER) (rest : List Int), (∀ e ∈ l, e.ok) → parseC l.length (bodyC l ++ rest) = some (l, rest)
  | [], rest, _ => rfl
  | e :: l, rest, h => by
    have he := h e (by simp)
    have hl := startC_len e
    have e1 : bodyC (e :: l) ++ rest = startC e ++ (e.b ++ (bodyC l ++ rest)) := by simp [bodyC]
    rw [e1, List.length_cons, parseC, if_neg (by rw [List.length_append, hl]; omega), hd_start1 he, hd_start0 he, if_neg (by
      rw [List.length_append, List.length_append, hl]
      have := he.2
      omega), Int.toNat_natCast]
    have e2 : (startC e ++ (e.b ++ (bodyC l ++ rest))).drop 5 = e.b ++ (bodyC l ++ rest) := by rw [← hl, List.drop_left]
    have e3 : (startC e ++ (e.b ++ (bodyC l ++ rest))).drop (5 + e.b.length) = bodyC l ++ rest := by rw [← List.drop_drop, e2, List.drop_left]
    rw [e3, parse_body l rest (fun x hx => h x (by simp [hx])), e2, List.take_left]
theorem export_ok {l : List ER} (h : (exportF l).2 = 0) : (∀ e ∈ l, e.ok) ∧ l.length ≤ 65535 ∧ exportF l = (headC l ++ putB l.length 2 ++ bodyC l, 0) := by
  unfold exportF at h ⊢
  by_cases h1 : firstBad l = 0
  · rw [if_pos h1] at h ⊢
    by_cases h2 : 65535 < l.length
    · rw [if_pos h2] at h; cases h
    · rw [if_neg h2]; exact ⟨(firstBad_ok l).1 h1, by omega, rfl⟩
  · rw [if_neg h1] at h; exact absurd h h1
theorem import_export {l : List ER} (h : (exportF l).2 = 0) : importF (exportF l).1 = (l, 0) := by
  obtain ⟨h1, h2, h3⟩ := export_ok h
  have hl := headC_len l
  rw [h3]
  show importF (headC l ++ putB l.length 2 ++ bodyC l) = _
  have e1 : (headC l ++ putB (l.length : Int) 2).length = 34 := by rw [List.length_append, hl, putB_length]
  unfold importF
  rw [if_neg (by rw [List.length_append, e1]; omega)]
  have e2 : hdF (headC l ++ putB (l.length : Int) 2 ++ bodyC l) 32 2 = l.length := by
    rw [hd_app 32 2 (by rw [e1]; omega), ← hl, List.drop_left, List.take_of_length_le (by rw [putB_length]; omega), valB_put _ _ (by omega)]
    have e : (256 : Int) ^ 2 = 65536 := by decide
    rw [e]; omega
  have e3 : (headC l ++ putB (l.length : Int) 2 ++ bodyC l).drop 34 = bodyC l ++ [] := by rw [← e1, List.drop_left, List.append_nil]
  have e4 : (headC l ++ putB (l.length : Int) 2 ++ bodyC l).take 32 = headC l := by rw [List.append_assoc, ← hl, List.take_left]
  rw [e2, e3, Int.toNat_natCast, parse_body l [] h1, e4]
  simp

end Go.Proofs.Ytbhoakohpfdeoaa
