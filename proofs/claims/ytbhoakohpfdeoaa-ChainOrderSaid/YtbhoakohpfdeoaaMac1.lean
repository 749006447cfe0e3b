/- Package mac: the pure tag; rows by lists; padded; Equal. -/
import Derived.Test.YtbhoakohpfdeoaaShaS
import Derived.Laws.CopyOwn
import Derived.Laws.BitsAllLaws
namespace Go.Proofs.Ytbhoakohpfdeoaa
open Go.RowKit
set_option linter.unusedVariables false
set_option linter.unusedSimpArgs false

def xorB (z c : Int) : Int := bits .xor .u8 z c
def padB (zs : List Int) (c : Int) : List Int := (List.range 64).map (fun i => xorB (zs.getD i 0) c)
def macK (key : List Int) : List Int := if 64 < key.length then shaF key else key
def macF (key b : List Int) : List Int := shaF (padB (macK key) 92 ++ shaF (padB (macK key) 54 ++ b))
theorem padB_len (zs : List Int) (c : Int) : (padB zs c).length = 64 := by simp [padB]
theorem macF_len (key b : List Int) : (macF key b).length = 32 := shaF_len _
theorem xorB_in (z c : Int) : 0 ≤ xorB z c ∧ xorB z c ≤ 255 := by
  unfold xorB bits
  rw [IntKind.wrap_u8']
  omega
theorem padB_inB (zs : List Int) (c : Int) : InB (padB zs c) := fun z hz => by
  unfold padB at hz
  obtain ⟨i, _, rfl⟩ := List.mem_map.1 hz
  have := xorB_in (zs.getD i 0) c
  constructor <;> omega
theorem macF_inB (key b : List Int) : InB (macF key b) := shaF_inB _
theorem macK_inB {key : List Int} (h : InB key) : InB (macK key) := by
  unfold macK
  split
  · exact shaF_inB _
  · exact h

theorem or_zero {a b : Int} (h1 : 0 ≤ a) (h2 : a < 256) (h3 : 0 ≤ b) (h4 : b < 256) : bits .or .u8 a b = 0 ↔ a = 0 ∧ b = 0 := by
  rw [u8_or a b h1 h2 h3 h4]
  constructor
  · intro h
    have h5 : a.toNat ||| b.toNat = 0 := by omega
    have := Nat.or_eq_zero_iff.1 h5
    omega
  · rintro ⟨rfl, rfl⟩; rfl
theorem or_in8 (a b : Int) : 0 ≤ bits .or .u8 a b ∧ bits .or .u8 a b < 256 := by
  unfold bits
  rw [IntKind.wrap_u8']
  omega
theorem xor_in8 (a b : Int) : 0 ≤ bits .xor .u8 a b ∧ bits .xor .u8 a b < 256 := by
  unfold bits
  rw [IntKind.wrap_u8']
  omega
theorem xor_zero {a b : Int} (h1 : 0 ≤ a) (h2 : a < 256) (h3 : 0 ≤ b) (h4 : b < 256) : bits .xor .u8 a b = 0 ↔ a = b := by
  rw [u8_xor a b h1 h2 h3 h4]
  constructor
  · intro h
    have h5 : a.toNat ^^^ b.toNat = 0 := by omega
    have h6 : a.toNat = b.toNat := by
      have h7 : a.toNat ^^^ b.toNat ^^^ b.toNat = b.toNat := by rw [h5, Nat.zero_xor]
      rwa [Nat.xor_assoc, Nat.xor_self, Nat.xor_zero] at h7
    omega
  · rintro rfl; simp

/-- A row of bytes at the head of a block, whole. -/
def RowL (w : World) (g : Nat) (L : List Int) : Prop := w.heap[g]? = some (.cells (L.map (Value.int .u8)).toArray 5 (0, 0))
theorem RowL.lt {w : World} {g : Nat} {L : List Int} (h : RowL w g L) : g < w.heap.size := blk_lt h
theorem RowL.same {w w' : World} {g : Nat} {L : List Int} (h : RowL w g L) (he : w'.heap[g]? = w.heap[g]?) : RowL w' g L := he.trans h
theorem RowL.cell {w : World} {g : Nat} {L : List Int} (h : RowL w g L) (j : Nat) (hj : j < L.length) : w.cell? ⟨g, j, none⟩ = some (.int .u8 (L.getD j 0)) ∧ w.frozen? ⟨g, j, none⟩ = false := by
  refine ⟨(blk_cell h j).trans ?_, blk_frozen h j⟩
  simp [List.getD, hj]
theorem RowL.set {w : World} {g : Nat} {L : List Int} (h : RowL w g L) (i : Nat) (v : Int) : RowL (w.setCell ⟨g, i, none⟩ (.int .u8 v)) g (L.set i v) := by
  have h1 := blk_set h i (.int .u8 v)
  refine h1.trans ?_
  congr 2
  simp [List.map_set]
theorem RowL.own {w : World} {g : Nat} {L : List Int} (h : RowL w g L) (n : Nat) (hn : L.length = n) (hm : n ≤ maxLen) : w.ownsRow 0 5 1 (.slice (some ⟨g, 0, none⟩) n n) n (L.map (Value.int .u8)) := by
  subst hn
  exact ⟨by simp, Or.inr ⟨g, L.length, _, rfl, Nat.zero_le _, h, Nat.le_refl _, hm, by simp, by simp only [Nat.mul_one, List.toList_toArray]; rw [List.take_of_length_le (by simp)]⟩⟩
theorem RowL.ints {w : World} {g : Nat} {L : List Int} (h : RowL w g L) : IntsAt .u8 w (some ⟨g, 0, none⟩) L :=
  Or.inr ⟨g, 0, rfl, fun i hi => by rw [Nat.zero_add]; exact (h.cell i hi).1⟩
theorem RowL.made (w : World) (n : Nat) : RowL (w.alloc (.cells (madeCells #[.int .u8 0] n) 5)) w.heap.size (List.replicate n 0) := by
  have h1 := heap_alloc_new w (.cells (madeCells #[.int .u8 0] n) 5)
  refine h1.trans ?_
  congr 2
  rw [← Array.toList_inj, toList_madeCells_one]
  simp

def padPre (zs : List Int) (c : Int) (k : Nat) : List Int := (List.range 64).map (fun j => if j < k then xorB (zs.getD j 0) c else zs.getD j 0)
theorem padPre_len (zs : List Int) (c : Int) (k : Nat) : (padPre zs c k).length = 64 := by simp [padPre]
theorem padPre_all (zs : List Int) (c : Int) : padPre zs c 64 = padB zs c := by
  unfold padPre padB
  refine List.map_congr_left (fun j hj => ?_)
  rw [if_pos (List.mem_range.1 hj)]
theorem padPre_at (zs : List Int) (c : Int) (k : Nat) (h : k < 64) : (padPre zs c k).getD k 0 = zs.getD k 0 := by
  unfold padPre
  simp only [List.getD_eq_getElem?_getD, List.getElem?_map, List.getElem?_range h, Option.map_some, Option.getD_some, Nat.lt_irrefl, if_false]
theorem padPre_step (zs : List Int) (c : Int) (k : Nat) (h : k < 64) : (padPre zs c k).set k (xorB (zs.getD k 0) c) = padPre zs c (k + 1) := by
  refine List.ext_getElem (by simp [padPre]) (fun j h1 h2 => ?_)
  rw [List.getElem_set]
  simp only [padPre, List.getElem_map, List.getElem_range]
  by_cases e : k = j
  · subst e; simp
  · rw [if_neg e]
    by_cases e2 : j < k
    · rw [if_pos e2, if_pos (by omega)]
    · rw [if_neg e2, if_neg (by omega)]
theorem padPre_zero (zs : List Int) (c : Int) : padPre zs c 0 = (zs.take 64) ++ List.replicate (64 - zs.length) 0 := by
  refine List.ext_getElem (by simp [padPre]; omega) (fun j h1 h2 => ?_)
  unfold padPre at h1 ⊢
  simp only [List.length_map, List.length_range] at h1
  simp only [List.getElem_map, List.getElem_range, Nat.not_lt_zero, if_false, List.getElem_append, List.length_take]
  by_cases e : j < zs.length
  · rw [dif_pos (by omega)]; simp [List.getD, e]
  · rw [dif_neg (by omega)]; simp [List.getD, List.getElem?_eq_none (Nat.not_lt.1 e)]

theorem tab_keep {w w' : World} {b : Nat} {S : Nat → Prop} (h : TabOk w b) (hk : Keeps S w w') (hS : ¬ S b) : TabOk w' b := h.same (hk.block b h.lt hS)
theorem below_fp {a b c : World} {S : Nat → Prop} (h : Below a.heap.size a b) (hk : Keeps S b c) (hS : ∀ i, S i → a.heap.size ≤ i) : Below a.heap.size a c :=
  ((Keeps.of_below (S := fun _ => False) h).trans hk (fun k e => Or.inr (hS k e))).below (Nat.le_refl _) (fun _ h => h.elim)
theorem splice_pad (zs : List Int) : splice ((List.replicate 64 (0 : Int)).map (Value.int .u8)) 0 ((zs.take 64).map (Value.int .u8)) = (zs.take 64 ++ List.replicate (64 - zs.length) 0).map (Value.int .u8) := by
  unfold splice
  rw [List.take_zero, List.nil_append, Nat.zero_add, List.map_append, List.length_map, List.length_take, List.map_replicate, List.map_replicate, List.drop_replicate]
  congr 2
  omega

/-! Equal. -/
theorem eqB_take_succ (xs ys : List Int) (k : Nat) (hx : k < xs.length) (hy : k < ys.length) : eqB (xs.take (k + 1)) (ys.take (k + 1)) = (eqB (xs.take k) (ys.take k) && (xs.getD k 0 == ys.getD k 0)) := by
  unfold eqB
  have ex : xs.getD k 0 = xs[k] := by simp [List.getD, hx]
  have ey : ys.getD k 0 = ys[k] := by simp [List.getD, hy]
  rw [List.take_succ_eq_append_getElem hx, List.take_succ_eq_append_getElem hy, Bool.eq_iff_iff, ex, ey]
  simp only [decide_eq_true_eq, Bool.and_eq_true, beq_iff_eq]
  constructor
  · intro h
    have h1 := List.append_inj' h rfl
    exact ⟨h1.1, by simpa using h1.2⟩
  · rintro ⟨h1, h2⟩
    rw [h1, h2]
theorem inB_getD {zs : List Int} (h : InB zs) (k : Nat) : 0 ≤ zs.getD k 0 ∧ zs.getD k 0 < 256 := by
  by_cases hk : k < zs.length
  · have := h (zs.getD k 0) (by simp [List.getD, hk])
    omega
  · simp [List.getD, List.getElem?_eq_none (Nat.not_lt.1 hk)]
theorem eqB_step {v x y : Int} {B : Bool} (hv : 0 ≤ v ∧ v < 256) (hx : 0 ≤ x ∧ x < 256) (hy : 0 ≤ y ∧ y < 256) (h : (v == 0) = B) : (bits .or .u8 v (bits .xor .u8 x y) == 0) = (B && (x == y)) := by
  subst h
  have h1 := xor_in8 x y
  rw [Bool.eq_iff_iff]
  simp only [beq_iff_eq, Bool.and_eq_true]
  rw [or_zero hv.1 hv.2 h1.1 h1.2, xor_zero hx.1 hx.2 hy.1 hy.2]

end Go.Proofs.Ytbhoakohpfdeoaa
