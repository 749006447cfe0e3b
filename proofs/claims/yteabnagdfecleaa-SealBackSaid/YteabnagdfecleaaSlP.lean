/- Package seal: the pure note. -/
import Derived.Test.YteabnagdfecleaaGen
namespace Go.Proofs.Yteabnagdfecleaa
open Go.RowKit
set_option linter.unusedVariables false
set_option linter.unusedSimpArgs false

/-- A note. -/
structure NR where
  p : Int
  l : Int
  w : Int
  s : Int
  b : List Int
def NR.ok (N : NR) : Prop := (0 ≤ N.p ∧ N.p < 16) ∧ (0 ≤ N.l ∧ N.l ≤ 1) ∧ (0 ≤ N.w ∧ N.w ≤ 1) ∧ (1 ≤ N.s ∧ N.s ≤ 4294967295)
instance (N : NR) : Decidable N.ok := by unfold NR.ok; exact inferInstance
def headN (N : NR) : List Int := putB 110 1 ++ putB N.p 1 ++ putB N.l 1 ++ putB N.w 1 ++ putB N.s 4 ++ putB N.b.length 4
def bodyN (N : NR) : List Int := headN N ++ N.b
def sealF (key : List Int) (N : NR) : List Int := bodyN N ++ macF key (bodyN N)
def sealR (key : List Int) (N : NR) : List Int × Int := if N.ok then (if 60000 < N.b.length then ([], 3) else (sealF key N, 0)) else ([], 1)
def noN : NR := ⟨0, 0, 0, 0, []⟩
def splitF (zs : List Int) : NR × Int :=
  if zs.length < 44 then (noN, 2)
  else if hdF zs 0 1 = 110 ∧ hdF zs 1 1 < 16 ∧ hdF zs 2 1 ≤ 1 ∧ hdF zs 3 1 ≤ 1 ∧ hdF zs 8 4 ≤ 60000 ∧ (zs.length : Int) = 44 + hdF zs 8 4 then (⟨hdF zs 1 1, hdF zs 2 1, hdF zs 3 1, hdF zs 4 4, (zs.drop 12).take (zs.length - 44)⟩, 0)
  else (noN, 2)
def openF (key zs : List Int) : NR × Int :=
  if (splitF zs).2 = 0 then (if (splitF zs).1.s = 0 then (noN, 2) else if macF key (zs.take (zs.length - 32)) = zs.drop (zs.length - 32) then ((splitF zs).1, 0) else (noN, 4)) else (noN, 2)

theorem headN_len (N : NR) : (headN N).length = 12 := by simp [headN, putB_length]
theorem bodyN_len (N : NR) : (bodyN N).length = 12 + N.b.length := by rw [bodyN, List.length_append, headN_len]
theorem sealF_len (key : List Int) (N : NR) : (sealF key N).length = 44 + N.b.length := by rw [sealF, List.length_append, bodyN_len, macF_len]; omega
theorem headN_inB (N : NR) : InB (headN N) := by
  unfold headN
  exact inB_app (inB_app (inB_app (inB_app (inB_app (putB_in _ _) (putB_in _ _)) (putB_in _ _)) (putB_in _ _)) (putB_in _ _)) (putB_in _ _)
theorem bodyN_inB {N : NR} (h : InB N.b) : InB (bodyN N) := inB_app (headN_inB N) h
theorem sealF_inB (key : List Int) {N : NR} (h : InB N.b) : InB (sealF key N) := inB_app (bodyN_inB h) (macF_inB _ _)
theorem sealR_inB (key : List Int) {N : NR} (h : InB N.b) : InB (sealR key N).1 := by
  unfold sealR
  split
  · split
    · intro z hz; cases hz
    · exact sealF_inB key h
  · intro z hz; cases hz
theorem sealR_len (key : List Int) (N : NR) : (sealR key N).1.length ≤ 60044 := by
  unfold sealR
  split
  · split
    · simp
    · rw [sealF_len]; omega
  · simp
theorem sealR_ok {key : List Int} {N : NR} (h : (sealR key N).2 = 0) : N.ok ∧ N.b.length ≤ 60000 ∧ sealR key N = (sealF key N, 0) := by
  unfold sealR at h ⊢
  by_cases h1 : N.ok
  · rw [if_pos h1] at h ⊢
    by_cases h2 : 60000 < N.b.length
    · rw [if_pos h2] at h; cases h
    · rw [if_neg h2]; exact ⟨h1, by omega, rfl⟩
  · rw [if_neg h1] at h; cases h
theorem sealR_no {key : List Int} {N : NR} (h : (sealR key N).2 ≠ 0) : (sealR key N).1 = [] := by
  unfold sealR at h ⊢
  by_cases h1 : N.ok
  · rw [if_pos h1] at h ⊢
    by_cases h2 : 60000 < N.b.length
    · rw [if_pos h2]
    · rw [if_neg h2] at h; exact absurd rfl h
  · rw [if_neg h1]
theorem splitF_err (zs : List Int) : (splitF zs).2 = 0 ∨ (splitF zs = (noN, 2)) := by
  unfold splitF
  split
  · exact Or.inr rfl
  · split
    · exact Or.inl rfl
    · exact Or.inr rfl
theorem splitF_ok {zs : List Int} (h : (splitF zs).2 = 0) : 44 ≤ zs.length ∧ (hdF zs 0 1 = 110 ∧ hdF zs 1 1 < 16 ∧ hdF zs 2 1 ≤ 1 ∧ hdF zs 3 1 ≤ 1 ∧ hdF zs 8 4 ≤ 60000 ∧ (zs.length : Int) = 44 + hdF zs 8 4) ∧ splitF zs = (⟨hdF zs 1 1, hdF zs 2 1, hdF zs 3 1, hdF zs 4 4, (zs.drop 12).take (zs.length - 44)⟩, 0) := by
  unfold splitF at h ⊢
  by_cases h1 : zs.length < 44
  · rw [if_pos h1] at h; cases h
  · rw [if_neg h1] at h ⊢
    split at h
    · rename_i h2
      exact ⟨by omega, h2, if_pos h2⟩
    · cases h
theorem splitF_inB {zs : List Int} (h : InB zs) : InB (splitF zs).1.b := by
  rcases splitF_err zs with e | e
  · rw [(splitF_ok e).2.2]; exact inB_take (inB_drop h _) _
  · rw [e]; intro z hz; cases hz
theorem splitF_len {zs : List Int} (h : (splitF zs).2 = 0) : (splitF zs).1.b.length = zs.length - 44 := by
  rw [(splitF_ok h).2.2]
  show ((zs.drop 12).take (zs.length - 44)).length = _
  rw [List.length_take, List.length_drop]
  omega
theorem openF_inB {key zs : List Int} (h : InB zs) : InB (openF key zs).1.b := by
  unfold openF
  split
  · split
    · intro z hz; cases hz
    · split
      · exact splitF_inB h
      · intro z hz; cases hz
  · intro z hz; cases hz
/-- What is opened was split. -/
theorem openF_ok {key zs : List Int} (h : (openF key zs).2 = 0) : (splitF zs).2 = 0 ∧ openF key zs = ((splitF zs).1, 0) ∧ (splitF zs).1.s ≠ 0 := by
  unfold openF at h ⊢
  by_cases h1 : (splitF zs).2 = 0
  · rw [if_pos h1] at h ⊢
    by_cases h2 : (splitF zs).1.s = 0
    · rw [if_pos h2] at h; cases h
    · rw [if_neg h2] at h ⊢
      split at h
      · rename_i h3
        exact ⟨h1, if_pos h3, h2⟩
      · cases h
  · rw [if_neg h1] at h; cases h
theorem openF_no {key zs : List Int} (h : (splitF zs).2 ≠ 0) : openF key zs = (noN, 2) := by
  unfold openF
  rw [if_neg h]
theorem headN_at (N : NR) : headN N = [byteAt 110 0, byteAt N.p 0, byteAt N.l 0, byteAt N.w 0, byteAt N.s 3, byteAt N.s 2, byteAt N.s 1, byteAt N.s 0, byteAt N.b.length 3, byteAt N.b.length 2, byteAt N.b.length 1, byteAt N.b.length 0] := rfl
theorem seal_take12 (key : List Int) (N : NR) (rest : List Int) : (sealF key N ++ rest).take 12 = headN N := by
  have h := headN_len N
  unfold sealF bodyN
  rw [List.append_assoc, List.append_assoc, ← h, List.take_left]
section
variable {N : NR} {zs : List Int} (h : zs.take 12 = headN N)
include h
theorem hdN (i s : Nat) (hi : i + s ≤ 12) : hdF zs i s = valB (((headN N).drop i).take s) := by
  unfold hdF
  rw [take_in h i s hi]
theorem hdN_0 : hdF zs 0 1 = 110 := by
  rw [hdN h 0 1 (by omega), headN_at]
  show valB (putB 110 1) = _
  exact put1 (by omega)
theorem hdN_p (ho : N.ok) : hdF zs 1 1 = N.p := by
  rw [hdN h 1 1 (by omega), headN_at]
  show valB (putB N.p 1) = _
  exact put1 (by have := ho.1; omega)
theorem hdN_l (ho : N.ok) : hdF zs 2 1 = N.l := by
  rw [hdN h 2 1 (by omega), headN_at]
  show valB (putB N.l 1) = _
  exact put1 (by have := ho.2.1; omega)
theorem hdN_w (ho : N.ok) : hdF zs 3 1 = N.w := by
  rw [hdN h 3 1 (by omega), headN_at]
  show valB (putB N.w 1) = _
  exact put1 (by have := ho.2.2.1; omega)
theorem hdN_s (ho : N.ok) : hdF zs 4 4 = N.s := by
  rw [hdN h 4 4 (by omega), headN_at]
  show valB (putB N.s 4) = _
  exact put4 (by have := ho.2.2.2; omega)
theorem hdN_n (hl : N.b.length ≤ 60000) : hdF zs 8 4 = N.b.length := by
  rw [hdN h 8 4 (by omega), headN_at]
  show valB (putB (N.b.length : Int) 4) = _
  exact put4 (by omega)
end
theorem split_seal {key : List Int} {N : NR} (ho : N.ok) (hl : N.b.length ≤ 60000) : splitF (sealF key N) = (N, 0) := by
  have h := seal_take12 key N []
  rw [List.append_nil] at h
  have hn := sealF_len key N
  unfold splitF
  rw [if_neg (by omega), hdN_0 h, hdN_p h ho, hdN_l h ho, hdN_w h ho, hdN_s h ho, hdN_n h hl, if_pos ⟨rfl, ho.1.2, ho.2.1.2, ho.2.2.1.2, by omega, by omega⟩, hn]
  have e1 : ((sealF key N).drop 12).take (44 + N.b.length - 44) = N.b := by
    have h2 := headN_len N
    unfold sealF bodyN
    rw [List.append_assoc, ← h2, List.drop_left, show 44 + N.b.length - 44 = N.b.length by omega, List.take_left]
  rw [e1]
theorem open_seal {key : List Int} {N : NR} (ho : N.ok) (hl : N.b.length ≤ 60000) : openF key (sealF key N) = (N, 0) := by
  unfold openF
  have hs : N.s ≠ 0 := by have := ho.2.2.2; omega
  have hn := sealF_len key N
  have hb := bodyN_len N
  rw [split_seal ho hl, if_pos rfl, if_neg hs, if_pos]
  have e : (sealF key N).length - 32 = (bodyN N).length := by omega
  rw [e]
  unfold sealF
  rw [List.take_left, List.drop_left]
theorem split_long {key : List Int} {N : NR} (ho : N.ok) (hl : N.b.length ≤ 60000) (x : Int) : splitF (sealF key N ++ [x]) = (noN, 2) := by
  have h := seal_take12 key N [x]
  have hn := sealF_len key N
  unfold splitF
  rw [if_neg (by simp; omega), if_neg]
  rintro ⟨_, _, _, _, _, h6⟩
  rw [hdN_n h hl] at h6
  simp at h6
  omega
/-- What is cut is none. -/
theorem split_cut {zs : List Int} (h : (splitF zs).2 = 0) (c : Nat) (hc : c < zs.length) : splitF (zs.take c) = (noN, 2) := by
  have h1 := splitF_ok h
  unfold splitF
  by_cases h2 : (zs.take c).length < 44
  · rw [if_pos h2]
  · rw [if_neg h2, if_neg]
    rintro ⟨_, _, _, _, _, h6⟩
    rw [List.length_take] at h2 h6
    have e : hdF (zs.take c) 8 4 = hdF zs 8 4 := by
      unfold hdF
      rw [List.drop_take, List.take_take, Nat.min_eq_left (by omega)]
    rw [e] at h6
    have := h1.2.1.2.2.2.2.2
    omega
theorem seal_inj {key : List Int} {N M : NR} (hN : N.ok) (hM : M.ok) (h1 : N.b.length ≤ 60000) (h2 : M.b.length ≤ 60000) : sealF key N = sealF key M ↔ N = M :=
  ⟨fun h => by
    have e1 := split_seal (key := key) hN h1
    have e2 := split_seal (key := key) hM h2
    rw [h, e2] at e1
    exact (congrArg Prod.fst e1).symm, fun h => by rw [h]⟩

end Go.Proofs.Yteabnagdfecleaa
