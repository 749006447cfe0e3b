/- SHA-256, plainly: blocks taken one behind the other, the state and what is left. Contracts of slices.Clone and of cflref.CopyBytes. Contracts of sha.New and (*sha.Hash).Write. Contract of sha.lays. slices.Chunk as an iterator: all the blocks, in order; whatever the loop's body does. Contract of (*sha.Hash).Sum. -/
import Derived.Test.YtkaciaehlibidaaGreatLgB
import Derived.Test.YtkaciaehlibidaaGreatLgA
import Derived.Deep.RegionHeld3
import Derived.Test.YtkaciaehlibidaaGreatSha6
import Derived.RangeFuncNested
import Derived.RangeFuncBound
import Derived.RangeFuncCalls
import Derived.RangeFuncLeaves
import Derived.RangeFuncFrom
import Derived.Shelf.Abstract
import Derived.Shelf.RegionOpen
import Derived.OwnWalkIn
import Derived.TacticsInMore
import Derived.LoopNIn
import Derived.LoopIn
namespace Go.Proofs.YtkaciaehlibidaaGreat
open Go.RowKit Go.Shelf
set_option linter.unusedVariables false
set_option linter.unusedSimpArgs false

def hInit : List Int := [hAt 0, hAt 1, hAt 2, hAt 3, hAt 4, hAt 5, hAt 6, hAt 7]
def absN : Nat → List Int → List Int → List Int × List Int
  | 0, hs, bs => (hs, bs)
  | n + 1, hs, bs => absN n (mixF hs (bs.take 64)) (bs.drop 64)
def absF (hs bs : List Int) : List Int × List Int := absN (bs.length / 64) hs bs
theorem absN_two : ∀ (n : Nat) (hs bs : List Int), (absN n hs bs).2 = bs.drop (64 * n)
  | 0, hs, bs => by simp [absN]
  | n + 1, hs, bs => by
    unfold absN
    rw [absN_two n, List.drop_drop]
    congr 1; omega
theorem absN_app : ∀ (n : Nat) (hs xs ys : List Int), 64 * n ≤ xs.length → absN n hs (xs ++ ys) = ((absN n hs xs).1, (absN n hs xs).2 ++ ys)
  | 0, hs, xs, ys, _ => rfl
  | n + 1, hs, xs, ys, h => by
    unfold absN
    rw [List.take_append_of_le_length (by omega), List.drop_append_of_le_length (by omega), absN_app n _ _ _ (by simp; omega)]
theorem absN_add : ∀ (n m : Nat) (hs bs : List Int), absN (n + m) hs bs = absN m (absN n hs bs).1 (absN n hs bs).2
  | 0, m, hs, bs => by simp [absN]
  | n + 1, m, hs, bs => by
    rw [show n + 1 + m = (n + m) + 1 by omega]
    show absN (n + m) _ _ = _
    rw [absN_add n m]
    rfl
theorem absN_succ (n : Nat) (hs bs : List Int) : absN (n + 1) hs bs = (mixF (absN n hs bs).1 ((bs.drop (64 * n)).take 64), bs.drop (64 * (n + 1))) := by
  rw [absN_add n 1]
  have h2 := absN_two n hs bs
  generalize absN n hs bs = x at *
  obtain ⟨a, b⟩ := x
  subst h2
  show (mixF a _, _) = _
  rw [List.drop_drop]
  rfl
theorem absF_two (hs bs : List Int) : (absF hs bs).2 = bs.drop (64 * (bs.length / 64)) := absN_two _ _ _
theorem absF_len (hs bs : List Int) : (absF hs bs).2.length = bs.length % 64 := by
  rw [absF_two]; simp; omega
theorem absF_app (hs xs ys : List Int) : absF hs (xs ++ ys) = absF (absF hs xs).1 ((absF hs xs).2 ++ ys) := by
  have hl := absF_len hs xs
  have e : (xs ++ ys).length / 64 = xs.length / 64 + ((absF hs xs).2 ++ ys).length / 64 := by
    simp only [List.length_append, hl]; omega
  show absN _ _ _ = absN _ _ _
  rw [e, absN_add, absN_app _ _ _ _ (by omega)]
  rfl
theorem mixF_len (hs bs : List Int) (h : hs.length = 8) : (mixF hs bs).length = 8 := by
  unfold mixF
  rw [List.length_zipWith, vRun_len _ _ h, h]; rfl
theorem mixF_in (hs bs : List Int) (j : Nat) : InU ((mixF hs bs).getD j 0) := by
  unfold mixF
  simp only [List.getD, List.getElem?_zipWith]
  split
  · exact inU_mod _
  · exact ⟨by decide, by decide⟩
theorem absN_len : ∀ (n : Nat) (hs bs : List Int), hs.length = 8 → (absN n hs bs).1.length = 8
  | 0, hs, bs, h => h
  | n + 1, hs, bs, h => absN_len n _ _ (mixF_len hs _ h)
theorem absN_in : ∀ (n : Nat) (hs bs : List Int), (∀ j, InU (hs.getD j 0)) → ∀ j, InU ((absN n hs bs).1.getD j 0)
  | 0, hs, bs, h => h
  | n + 1, hs, bs, h => absN_in n _ _ (mixF_in hs _)
theorem hAt_in (i : Nat) : InU (hAt i) := by
  unfold hAt hWord
  exact ⟨by omega, by omega⟩
theorem hInit_in (j : Nat) : InU (hInit.getD j 0) := by
  match j with
  | 0 => exact hAt_in 0
  | 1 => exact hAt_in 1
  | 2 => exact hAt_in 2
  | 3 => exact hAt_in 3
  | 4 => exact hAt_in 4
  | 5 => exact hAt_in 5
  | 6 => exact hAt_in 6
  | 7 => exact hAt_in 7
  | j + 8 => exact ⟨by simp [hInit], by simp [hInit]⟩
theorem hInit_len : hInit.length = 8 := rfl
/-- The state behind a text, and what is left of it. -/
def stH (all : List Int) : List Int := (absF hInit all).1
def stR (all : List Int) : List Int := (absF hInit all).2
theorem stH_len (all : List Int) : (stH all).length = 8 := absN_len _ _ _ hInit_len
theorem stH_in (all : List Int) (j : Nat) : InU ((stH all).getD j 0) := absN_in _ _ _ hInit_in j
theorem stR_len (all : List Int) : (stR all).length = all.length % 64 := absF_len _ _
theorem stR_eq (all : List Int) : stR all = all.drop (64 * (all.length / 64)) := absF_two _ _
theorem st_app (all bs : List Int) : (stH (all ++ bs), stR (all ++ bs)) = absF (stH all) (stR all ++ bs) := by
  show ((absF _ _).1, (absF _ _).2) = _
  rw [absF_app]; rfl
/-- A number's bytes, the greatest first. -/
def bytesBE (n : Int) : Nat → List Int
  | 0 => []
  | k + 1 => (n / 256 ^ k % 256) :: bytesBE n k
theorem bytesBE_len (n : Int) : ∀ k, (bytesBE n k).length = k
  | 0 => rfl
  | k + 1 => by simp [bytesBE, bytesBE_len n k]
/-- How many noughts: till eight bytes are lacking. -/
def padN (n : Nat) : Nat := (119 - n % 64) % 64
def padF (all : List Int) : List Int := stR all ++ ([128] ++ List.replicate (padN (all.length)) 0 ++ bytesBE (8 * (all.length : Int) % 18446744073709551616) 8)
def outF (hs : List Int) : List Int := hs.flatMap (fun h => bytesBE h 4)
def shaF (all : List Int) : List Int := outF (absF (stH all) (padF all)).1
theorem padF_len (all : List Int) : (padF all).length % 64 = 0 := by
  unfold padF padN
  simp only [List.length_append, stR_len, bytesBE_len, List.length_replicate, List.length_cons, List.length_nil]
  omega
theorem outF_len (hs : List Int) : (outF hs).length = 4 * hs.length := by
  unfold outF
  induction hs with
  | nil => rfl
  | cons h hs ih => simp only [List.flatMap_cons, List.length_append, bytesBE_len, ih, List.length_cons]; omega
theorem shaF_len (all : List Int) : (shaF all).length = 32 := by
  unfold shaF
  rw [outF_len, show ((absF (stH all) (padF all)).1).length = 8 from absN_len _ _ _ (stH_len all)]

theorem Try_infoU8 : (Tryz.prog.info? 5).map (fun i => (i.zero, i.size, i.bytes)) = some (some (.int .u8 0), 1, 1) := by kernel_rfl

set_option maxHeartbeats 1000000 in
theorem clone_u8 (ao : Option Addr) (zs : List Int) (n cap : Nat) (w : World) (hn : zs.length = n) (h : IntsAt .u8 w ao zs) (hm : n ≤ 140737488355328) :
    Calls Tryz.prog 70 #[.slice ao n cap] w fun e w' => RowPost w zs e w' := by
  have heq := fun w : World => Lib.run_eql_slice_nil (P := Tryz.prog) w 62 5 ao n cap 0 0 Tryz.underlying62
  have HN := Lib.hid hn
  have H := Lib.hid h
  clear hn
  cases ao with
  | none =>
    have h0 := ints_none h
    clear h
    go_enter Tryz.func70, Tryz.ntmps70
    go_wp2
    go_ret
    exact ⟨none, 0, ret_val (a := .slice none 0 0) (by rw [h0]), by rw [h0, List.length_eq_zero_iff.1 h0]; exact ⟨World.ownsRow_nil _ _ _ _, Below.refl _ _, fun g hg => by cases hg⟩⟩
  | some a =>
    obtain ⟨i0, hi, hz0, hz1, hz2⟩ := info_parts Try_infoU8
    clear h
    go_enter Tryz.func70, Tryz.ntmps70
    go_wp2_with (at_builtin; refine wpList_append_any rfl _ _ 62 rfl 5 i0 (.int .u8 0) 1 1 Tryz.underlying62 hi hz0 hz1 hz2 rfl (by decide) (.slice (some ⟨w.heap.size, 0, none⟩) 0 0) 0 [] rfl (World.ownsRow_made w #[] 0 (Nat.zero_le _) (Nat.zero_le _) rfl) (some a) n cap (zs.map (Value.int .u8)) rfl ?c1 ?c2 ?c3 (ints_one _ _) ?c5 ?c6 ?_)
    case c1 => simp; exact HN.out
    case c2 => intro e; cases e
    case c3 => exact src_ints (ints_below H.out ((Below.refl _ _).alloc (Nat.le_refl _) _))
    case c5 => unfold maxLen; omega
    case c6 => omega
    intro ao' cap' w1 hown hgrow hat hnn
    have HR : Hid (RowAt w (.slice ao' n cap') zs w1) := Lib.hid (by
      refine ⟨by rw [HN.out]; simpa using hown, ((Below.refl _ _).alloc (Nat.le_refl _) _).grown hgrow (by simp) (fun k hk => by simp only [Value.ownBlock, Option.some.injEq] at hk; omega), fun g hg => ?_⟩
      rcases hat g hg with e | e
      · simp only [Value.ownBlock, Option.some.injEq] at e; omega
      · rw [e]; simp)
    clear hown hgrow hat hnn
    go_wp2
    go_ret
    exact ⟨ao', cap', ret_val (a := .slice ao' n cap') (by rw [HN.out]), by rw [HN.out]; exact HR.out⟩

set_option maxHeartbeats 1000000 in
theorem copyBytes (ao : Option Addr) (zs : List Int) (n cap : Nat) (w : World) (hn : zs.length = n) (h : IntsAt .u8 w ao zs) (hm : n ≤ 140737488355328) :
    Calls Tryz.prog 109 #[.slice ao n cap] w fun e w' => RowPost w zs e w' := by
  have HN := Lib.hid hn
  have H := Lib.hid h
  obtain ⟨i0, hi, hz0, hz1, hz2⟩ := info_parts Try_infoU8
  clear hn h
  go_enter Tryz.func109, Tryz.ntmps109
  go_wp2_with (at_builtin; refine wpList_append_any rfl _ _ 62 rfl 5 i0 (.int .u8 0) 1 1 Tryz.underlying62 hi hz0 hz1 hz2 rfl (by decide) (.slice (some ⟨w.heap.size, 0, none⟩) 0 0) 0 [] rfl (World.ownsRow_made w #[] 0 (Nat.zero_le _) (Nat.zero_le _) rfl) ao n cap (zs.map (Value.int .u8)) rfl ?c1 ?c2 ?c3 (ints_one _ _) ?c5 ?c6 ?_)
  case c1 => simp; exact HN.out
  case c2 => intro e; have h := H.out; rw [e] at h; have := ints_none h; have := HN.out; omega
  case c3 => exact src_ints (ints_below H.out ((Below.refl _ _).alloc (Nat.le_refl _) _))
  case c5 => unfold maxLen; omega
  case c6 => omega
  intro ao' cap' w1 hown hgrow hat hnn
  have HR : Hid (RowAt w (.slice ao' n cap') zs w1) := Lib.hid (by
    refine ⟨by rw [HN.out]; simpa using hown, ((Below.refl _ _).alloc (Nat.le_refl _) _).grown hgrow (by simp) (fun k hk => by simp only [Value.ownBlock, Option.some.injEq] at hk; omega), fun g hg => ?_⟩
    rcases hat g (by simpa using hg) with e | e
    · simp only [Value.ownBlock, Option.some.injEq] at e; omega
    · rw [e]; simp)
  clear hown hgrow hat hnn
  go_wp2
  go_ret
  exact ⟨ao', cap', ret_val (a := .slice ao' n cap') (by rw [HN.out]), by rw [HN.out]; exact HR.out⟩

/-- The hash's block: the table, eight words, what is left, the length. -/
def HBlk (w : World) (p tb : Nat) (hs : List Int) (v : Value) (n : Int) : Prop :=
  ∃ a0 a1 a2 a3 a4 a5 a6 a7, hs = [a0, a1, a2, a3, a4, a5, a6, a7] ∧ w.heap[p]? = some (.cells #[.pointer (some ⟨tb, 0, none⟩), .int .u32 a0, .int .u32 a1, .int .u32 a2, .int .u32 a3, .int .u32 a4, .int .u32 a5, .int .u32 a6, .int .u32 a7, v, .int .u64 n] 193 (0, 0))
def hC (tb : Nat) (v : Value) (n : Int) : Array Value := #[.pointer (some ⟨tb, 0, none⟩), .int .u32 0, .int .u32 0, .int .u32 0, .int .u32 0, .int .u32 0, .int .u32 0, .int .u32 0, .int .u32 0, v, .int .u64 n]
section
variable {w w' : World} {p tb : Nat} {hs : List Int} {v : Value} {n : Int}
theorem HBlk.lt (h : HBlk w p tb hs v n) : p < w.heap.size := by
  obtain ⟨_, _, _, _, _, _, _, _, _, h⟩ := h
  exact blk_lt h
theorem HBlk.same (h : HBlk w p tb hs v n) (he : w'.heap[p]? = w.heap[p]?) : HBlk w' p tb hs v n := by
  obtain ⟨a0, a1, a2, a3, a4, a5, a6, a7, e, h⟩ := h
  exact ⟨a0, a1, a2, a3, a4, a5, a6, a7, e, he.trans h⟩
theorem HBlk.cells (h : HBlk w p tb hs v n) : w.cell? ⟨p, 0, none⟩ = some (.pointer (some ⟨tb, 0, none⟩)) ∧ w.cell? ⟨p, 9, none⟩ = some v ∧ w.cell? ⟨p, 10, none⟩ = some (.int .u64 n) ∧ w.frozen? ⟨p, 9, none⟩ = false ∧ w.frozen? ⟨p, 10, none⟩ = false := by
  obtain ⟨a0, a1, a2, a3, a4, a5, a6, a7, e, h⟩ := h
  exact ⟨blk_cell h 0, blk_cell h 9, blk_cell h 10, blk_frozen h 9, blk_frozen h 10⟩
theorem HBlk.words (h : HBlk w p tb hs v n) (j : Nat) (hj : j < 8) : w.cell? ⟨p, 1 + j, none⟩ = some (.int .u32 (hs.getD j 0)) := by
  obtain ⟨a0, a1, a2, a3, a4, a5, a6, a7, e, h⟩ := h
  subst e
  refine (blk_cell h _).trans ?_
  match j, hj with
  | 0, _ => rfl
  | 1, _ => rfl
  | 2, _ => rfl
  | 3, _ => rfl
  | 4, _ => rfl
  | 5, _ => rfl
  | 6, _ => rfl
  | 7, _ => rfl
theorem HBlk.setV (h : HBlk w p tb hs v n) (u : Value) : HBlk (w.setCell ⟨p, 9, none⟩ u) p tb hs u n := by
  obtain ⟨a0, a1, a2, a3, a4, a5, a6, a7, e, h⟩ := h
  exact ⟨a0, a1, a2, a3, a4, a5, a6, a7, e, by have := blk_set h 9 u; simpa using this⟩
theorem HBlk.setN (h : HBlk w p tb hs v n) (m : Int) : HBlk (w.setCell ⟨p, 10, none⟩ (.int .u64 m)) p tb hs v m := by
  obtain ⟨a0, a1, a2, a3, a4, a5, a6, a7, e, h⟩ := h
  exact ⟨a0, a1, a2, a3, a4, a5, a6, a7, e, by have := blk_set h 10 (.int .u64 m); simpa using this⟩
theorem HBlk.arr (h : HBlk w p tb hs v n) : ArrF w p 193 8 1 (fun j => hs.getD j 0) (hC tb v n) := by
  have hw := h.words
  obtain ⟨a0, a1, a2, a3, a4, a5, a6, a7, e, h⟩ := h
  refine ⟨_, h, rfl, by simp, fun j hj => (blk_cell h (1 + j)).symm.trans (hw j hj), fun j hj => ?_⟩
  rcases hj with hj | hj
  · obtain rfl : j = 0 := by omega
    rfl
  · match j, hj with
    | 9, _ => rfl
    | 10, _ => rfl
    | j + 11, _ => simp [hC]
theorem HBlk.of (h : ArrF w p 193 8 1 (fun j => hs.getD j 0) (hC tb v n)) (h8 : hs.length = 8) : HBlk w p tb hs v n := by
  obtain ⟨cs, h1, h0, h2, h3, h4⟩ := h
  match hs, h8 with
  | [a0, a1, a2, a3, a4, a5, a6, a7], _ =>
    refine ⟨a0, a1, a2, a3, a4, a5, a6, a7, rfl, ?_⟩
    rw [h1]
    congr 2
    apply Array.ext_getElem?
    intro j
    match j with
    | 0 => exact h4 0 (Or.inl (by omega))
    | 1 => exact h3 0 (by omega)
    | 2 => exact h3 1 (by omega)
    | 3 => exact h3 2 (by omega)
    | 4 => exact h3 3 (by omega)
    | 5 => exact h3 4 (by omega)
    | 6 => exact h3 5 (by omega)
    | 7 => exact h3 6 (by omega)
    | 8 => exact h3 7 (by omega)
    | 9 => exact h4 9 (Or.inr (by omega))
    | 10 => exact h4 10 (Or.inr (by omega))
    | j + 11 =>
      have : (hC tb v n)[j + 11]? = none := by simp [hC]
      rw [h4 _ (Or.inr (by omega)), this]; simp
end

/-- A hash in block p over the table in tb, in which 'all' was written; v: what is left. -/
def HashAt (w : World) (p tb : Nat) (all : List Int) (v : Value) : Prop :=
  HBlk w p tb (stH all) v all.length ∧ w.ownsRow 0 5 1 v (stR all).length ((stR all).map (Value.int .u8)) ∧ v.ownBlock ≠ some p ∧ v.ownBlock ≠ some tb ∧ p ≠ tb ∧ InB all
def fpH (p tb : Nat) (v : Value) (k : Nat) : Prop := k = tb ∨ k = p ∨ v.ownBlock = some k
theorem HashAt.lt {w : World} {p tb : Nat} {all : List Int} {v : Value} (h : HashAt w p tb all v) : p < w.heap.size ∧ ∀ g, v.ownBlock = some g → g < w.heap.size := ⟨h.1.lt, fun g hg => (h.2.1.lt g hg).2⟩
theorem HashAt.keep {w w' : World} {p tb : Nat} {all : List Int} {v : Value} {S : Nat → Prop} (h : HashAt w p tb all v) (hk : Keeps S w w') (hp : ¬ S p) (hv : ∀ g, v.ownBlock = some g → ¬ S g) : HashAt w' p tb all v :=
  ⟨h.1.same (hk.block p h.lt.1 hp), ownsRow_same h.2.1 (fun g hg => hk.block g (h.lt.2 g hg) (hv g hg)), h.2.2⟩

set_option maxRecDepth 100000 in
set_option maxHeartbeats 1000000 in
theorem new_any (tb : Nat) (w : World) (ht : TabOk w tb) :
    Calls Tryz.prog 118 #[.pointer (some ⟨tb, 0, none⟩)] w fun e w' => e = .returned (.pointer (some ⟨w.heap.size, 0, none⟩)) ∧ TabOk w' tb ∧ HashAt w' w.heap.size tb [] (.slice none 0 0) ∧ Keeps (fun i => i = tb) w w' := by
  have HT := Lib.hid ht
  have HLT := Lib.hid ht.lt
  obtain ⟨w1, hw1⟩ : ∃ w1, w1 = w.alloc (.cells (hC tb (.slice none 0 0) 0) 193) := ⟨_, rfl⟩
  have HB1 : Hid (Below w.heap.size w w1) := Lib.hid (by rw [hw1]; exact (Below.refl _ _).alloc (Nat.le_refl _) _)
  have HA1 : Hid (HBlk w1 w.heap.size tb [0, 0, 0, 0, 0, 0, 0, 0] (.slice none 0 0) 0) := Lib.hid (by
    rw [hw1]
    exact ⟨0, 0, 0, 0, 0, 0, 0, 0, rfl, heap_alloc_new w _⟩)
  have HT1 := Lib.hid (ht.below HB1.out)
  unfold hC at hw1
  have HW1 := Lib.hid hw1
  clear ht hw1
  go_enter Tryz.func118, Tryz.ntmps118
  go_wp2_with fail
  rw [← HW1.out]
  go_loopw [8] (fun i wr => ∃ k : Nat, k ≤ 8 ∧ i = .int .i64 k ∧ ArrF wr w.heap.size 193 8 1 (fun j => if j < k then hAt j else 0) (hC tb (.slice none 0 0) 0) ∧ TabOk wr tb ∧ Keeps (fun i => i = tb ∨ i = w.heap.size) w1 wr) (fun i _ => 8 - (intOf i).toNat)
  case atStart => exact ⟨0, Nat.zero_le _, rfl, HA1.out.arr.to (fun j hj => by
    rw [if_neg (by omega)]
    match j, hj with
    | 0, _ => rfl
    | 1, _ => rfl
    | 2, _ => rfl
    | 3, _ => rfl
    | 4, _ => rfl
    | 5, _ => rfl
    | 6, _ => rfl
    | 7, _ => rfl), HT1.out, Keeps.refl _ _⟩
  case round =>
    obtain ⟨k, hk, rfl, ha, ht, hkp⟩ := hrel
    have HA := Lib.hid ha
    have HTR := Lib.hid ht
    have HKP := Lib.hid hkp
    clear ha ht hkp
    by_cases hlt : k < 8
    · have j0 : (0 : Int) ≤ (k : Int) := by omega
      have j1 : (k : Int) < 8 := by omega
      have HST := Lib.hid (fun wx (hx : TabOk wx tb) => start_any tb k wx hx)
      have HHB := Lib.hid (show hB (k : Int) = hAt k by unfold hB; rw [if_pos (by omega)]; rfl)
      rw [HHB.out] at HST
      go_wp2_with fail
      refine wp_region_held_drew (S := fun w' => TabOk w' tb ∧ (∃ f : Nat → Int, (∀ j, j < 8 → j ≠ k → f j = if j < k then hAt j else 0) ∧ ArrF w' w.heap.size 193 8 1 f (hC tb (.slice none 0 0) 0)) ∧ Keeps (fun i => i = tb ∨ i = w.heap.size) wr w') (by kernel_rfl) ?_ (fun hHeld => ?_)
      · exact ⟨HTR.out.same rfl, ⟨_, fun _ _ _ => rfl, HA.out.same rfl⟩, (Keeps.refl _ _).drew⟩
      refine take_at (i := 0) (d := 11) (v := ?_) rfl rfl (by kernel_rfl) (by kernel_rfl) (by kernel_rfl) (fun _ _ _ h => h) (Or.inl ⟨by rfl, by intro w' hSw; (try dsimp only at hSw); go_simp; try with_reducible rfl⟩) (by assumption) ?_
      simp only [List.setIfInBounds_toArray, List.set_cons_zero, List.set_cons_succ]
      refine take_at (i := 1) (d := 12) (v := ?_) rfl rfl (by kernel_rfl) (by kernel_rfl) (by kernel_rfl) (fun _ _ _ h => h) (Or.inl ⟨by rfl, by intro w' hSw; (try dsimp only at hSw); go_simp; try with_reducible rfl⟩) (by assumption) ?_
      simp only [List.setIfInBounds_toArray, List.set_cons_zero, List.set_cons_succ]
      refine take_at (i := 2) (d := 13) (v := ?_) rfl rfl (by kernel_rfl) (by kernel_rfl) (by kernel_rfl) (fun _ _ _ h => h) (Or.inl ⟨by rfl, by intro w' hSw; (try dsimp only at hSw); go_simp; try with_reducible rfl⟩) (by assumption) ?_
      simp only [List.setIfInBounds_toArray, List.set_cons_zero, List.set_cons_succ]
      refine take_at (i := 3) (d := 14) (v := ?_) rfl rfl (by kernel_rfl) (by kernel_rfl) (by kernel_rfl) (fun _ _ _ h => h) (Or.inl ⟨by rfl, by intro w' hSw; (try dsimp only at hSw); go_simp; try with_reducible rfl⟩) (by assumption) ?_
      simp only [List.setIfInBounds_toArray, List.set_cons_zero, List.set_cons_succ]
      refine take_at (i := 5) (d := 16) (v := ?_) rfl rfl (by kernel_rfl) (by kernel_rfl) (by kernel_rfl) (fun _ _ _ h => h) (Or.inl ⟨by rfl, by intro w' hSw; (try dsimp only at hSw); go_simp; try with_reducible rfl⟩) (by assumption) ?_
      simp only [List.setIfInBounds_toArray, List.set_cons_zero, List.set_cons_succ]
      refine take_at (i := 6) (d := 17) (v := ?_) rfl rfl (by kernel_rfl) (by kernel_rfl) (by kernel_rfl) (fun _ _ _ h => h) (Or.inl ⟨by rfl, by intro w' hSw; (try dsimp only at hSw); go_simp; try with_reducible rfl⟩) (by assumption) ?_
      simp only [List.setIfInBounds_toArray, List.set_cons_zero, List.set_cons_succ]
      refine wpAnyH_ready (rs := [4]) (by kernel_rfl) (by simp) ?_
      refine AllReadyH.cons rfl (fun K hK => ?_) AllReadyH.nil
      go_simp
      go_at_call 128
      refine (HST.out _ hHeld.1).mono ?_
      rintro e w7 ⟨rfl, ht7, hk7⟩
      obtain ⟨_, ⟨f, hf, ha⟩, hkk⟩ := hHeld
      have HT7 := Lib.hid (show TabOk w7 tb from Or.inr ht7)
      have HF7 := Lib.hid hf
      have HA7 := Lib.hid (ha.same (hk7.block _ ha.lt (by have := HLT.out; omega)))
      have HK7 := Lib.hid (hkk.trans hk7 (fun i h => Or.inl (Or.inl h)))
      clear ht7 hk7 hf ha hkk
      dsimp only
      go_wp2_with fail
      refine hK.out _ _ ?_ (fun hHeld => ?_)
      · exact ⟨HT7.out, ⟨f, HF7.out, HA7.out⟩, HK7.out⟩
      clear hK K
      try simp only [Act.put, List.getElem_toArray, List.getElem_cons_succ, List.getElem_cons_zero]
      try simp only [List.setIfInBounds_toArray, List.set_cons_zero, List.set_cons_succ]
      refine take_at (i := 7) (d := 18) (v := ?_) rfl rfl (by kernel_rfl) (by kernel_rfl) (by kernel_rfl) (fun _ _ _ h => h) (Or.inl ⟨by rfl, by intro w' hSw; (try dsimp only at hSw); go_simp; try with_reducible rfl⟩) (by assumption) ?_
      simp only [List.setIfInBounds_toArray, List.set_cons_zero, List.set_cons_succ]
      obtain ⟨c7, f7⟩ := HA7.out.cell k hlt
      have HA8 := Lib.hid (HA7.out.set k hlt (hAt k))
      have HK8 := Lib.hid (HK7.out.trans ((Keeps.refl (fun i => i = w.heap.size) w7).setCell (p := ⟨w.heap.size, 1 + k, none⟩) (Or.inl rfl) (.int .u32 (hAt k))) (fun i hi => Or.inl (Or.inr hi)))
      have HT8 := Lib.hid (HT7.out.same (w' := w7.setCell ⟨w.heap.size, 1 + k, none⟩ (.int .u32 (hAt k))) (Below.heap_setCell _ _ _ _ (by have := HLT.out; dsimp only; omega)))
      refine wpAnyH_ready (rs := [8]) (by kernel_rfl) (by simp) ?_
      refine AllReadyH.cons rfl (fun K hK => ?_) AllReadyH.nil
      go_simp
      go_wp2_with fail
      refine hK.out _ _ ?_ (fun hHeld => ?_)
      · exact ⟨HT8.out, ⟨_, fun j hj hn => (by rw [if_neg hn]; exact HF7.out j hj hn), HA8.out⟩, HK8.out⟩
      clear hK K
      try simp only [Act.put, List.getElem_toArray, List.getElem_cons_succ, List.getElem_cons_zero]
      try simp only [List.setIfInBounds_toArray, List.set_cons_zero, List.set_cons_succ]
      refine wpAnyH_done (by kernel_rfl) ?_ _
      go_wp2_with fail
      go_roundw
      case rel =>
        refine ⟨k + 1, by omega, by go_num, HA8.out.to (fun j hj => ?_), HT8.out, HKP.out.trans HK8.out (fun i h => Or.inl h)⟩
        by_cases e : j = k
        · subst e
          rw [if_pos rfl, if_pos (by omega)]
        · rw [if_neg e, HF7.out j hj e]
          by_cases e2 : j < k
          · rw [if_pos e2, if_pos (by omega)]
          · rw [if_neg e2, if_neg (by omega)]
      case measure => simp [intOf]; omega
    · obtain rfl : k = 8 := by omega
      have HFI : Hid (HashAt wr w.heap.size tb [] (.slice none 0 0)) := Lib.hid (by
        refine ⟨HBlk.of (HA.out.to (fun j hj => ?_)) (stH_len []), World.ownsRow_nil _ _ _ _, by simp [Value.ownBlock], by simp [Value.ownBlock], by have := HLT.out; omega, fun z hz => by cases hz⟩
        rw [if_pos hj]
        match j, hj with
        | 0, _ => rfl
        | 1, _ => rfl
        | 2, _ => rfl
        | 3, _ => rfl
        | 4, _ => rfl
        | 5, _ => rfl
        | 6, _ => rfl
        | 7, _ => rfl)
      have HKF : Hid (Keeps (fun i => i = tb) w wr) := Lib.hid ((Keeps.of_below (S := fun i => i = tb) HB1.out).trans HKP.out (fun i h => by
        rcases h with h | h
        · exact Or.inl h
        · exact Or.inr (by omega)))
      go_wp2
      go_ret
      exact ⟨rfl, HTR.out, HFI.out, HKF.out⟩

def restLen (p : Nat) (w : World) : Nat := match w.cell? ⟨p, 9, none⟩ with
  | some (.slice _ n _) => n
  | _ => 0
theorem absF_at (hs row : List Int) (k : Nat) (h1 : 64 * k ≤ row.length) (h2 : row.length - 64 * k < 64) : absF hs row = absN k hs row := by
  unfold absF
  rw [show row.length / 64 = k by omega]
theorem st_at (all bs : List Int) (k : Nat) (h1 : 64 * k ≤ (stR all ++ bs).length) (h2 : (stR all ++ bs).length - 64 * k < 64) : stH (all ++ bs) = (absN k (stH all) (stR all ++ bs)).1 ∧ stR (all ++ bs) = (stR all ++ bs).drop (64 * k) := by
  have h := st_app all bs
  rw [absF_at _ _ k h1 h2] at h
  have h3 := absN_two k (stH all) (stR all ++ bs)
  rw [Prod.ext_iff] at h
  exact ⟨h.1, h.2.trans h3⟩

set_option maxRecDepth 100000 in
set_option maxHeartbeats 2000000 in
theorem write_any (p tb : Nat) (v : Value) (all : List Int) (w : World) (ht : TabOk w tb) (h : HashAt w p tb all v) (ao : Option Addr) (bs : List Int) (n cap : Nat) (hn : bs.length = n) (hz : IntsAt .u8 w ao bs) (hB : InB bs) (hp : bs = [] ∨ ∀ a, ao = some a → a.block ≠ p) (hlen : all.length + n ≤ 1099511627776) :
    Calls Tryz.prog 119 #[.pointer (some ⟨p, 0, none⟩), .slice ao n cap] w fun e w' => e = .returned (.tuple #[]) ∧ ∃ v', TabOk w' tb ∧ HashAt w' p tb (all ++ bs) v' ∧ Keeps (fpH p tb v) w w' ∧ (∀ g, v'.ownBlock = some g → w.heap.size ≤ g) := by
  have HTB := Lib.hid ht
  have HH := Lib.hid h
  have HN := Lib.hid hn
  have HZ := Lib.hid hz
  have HBB := Lib.hid hB
  have HL := Lib.hid hlen
  obtain ⟨hblk, hown, hvp, hvt, hpt, hib⟩ := h
  obtain ⟨vo, vc, rfl⟩ : ∃ vo vc, v = .slice vo (stR all).length vc := by
    rcases hown.2 with ⟨hv, hn⟩ | ⟨g, cap, cur, hv, _⟩
    · exact ⟨none, 0, by rw [hv, hn]⟩
    · exact ⟨_, cap, hv⟩
  have HRL := Lib.hid (stR_len all)
  have HRI : Hid (InB (stR all)) := Lib.hid (by rw [stR_eq]; exact inB_drop hib _)
  obtain ⟨c0, c9, c10, f9, f10⟩ := hblk.cells
  have HPT := Lib.hid hpt
  have HHS := Lib.hid (fun bs k h1 h2 => st_at all bs k h1 h2)
  have H8 := Lib.hid (stH_len all)
  have H8I := Lib.hid (stH_in all)
  obtain ⟨w1, hw1⟩ : ∃ w1, w1 = w.setCell ⟨p, 10, none⟩ (.int .u64 ((all.length : Int) + (n : Int))) := ⟨_, rfl⟩
  have HK1 : Hid (Keeps (fun i => i = p) w w1) := Lib.hid (by rw [hw1]; exact (Keeps.refl (fun i => i = p) w).setCell (p := ⟨p, 10, none⟩) (Or.inl rfl) _)
  have HB1 : Hid (HBlk w1 p tb (stH all) (.slice vo (stR all).length vc) ((all.length : Int) + (n : Int))) := Lib.hid (by rw [hw1]; exact hblk.setN _)
  have HO1 : Hid (w1.ownsRow 0 5 1 (.slice vo (stR all).length vc) (stR all).length ((stR all).map (Value.int .u8))) := Lib.hid (ownsRow_same hown (fun g hg => HK1.out.block g (hown.lt g hg).2 (by intro e; exact hvp (by rw [hg, e]))))
  have HT1 := Lib.hid (ht.same (HK1.out.block tb ht.lt (by omega)))
  have HZ1 : Hid (IntsAt .u8 w1 ao bs) := Lib.hid (hp.elim (fun h => Or.inl h) (fun hp => hz.same (fun a ha hl => HK1.out.block a.block hl (hp a ha))))
  have HW1 := Lib.hid hw1
  have HVP := Lib.hid hvp
  have HVT := Lib.hid hvt
  have HVL := Lib.hid hown.lt
  obtain ⟨i0, hi, hz0, hz1, hz2⟩ := info_parts Try_infoU8
  have e1 : IntKind.u64.wrap ((all.length : Int) + (n : Int)) = (all.length : Int) + (n : Int) := by rw [IntKind.wrap_u64]; omega
  have e2 : IntKind.u64.wrap (n : Int) = (n : Int) := by rw [IntKind.wrap_u64]; omega
  generalize hAL : (all.length : Int) = AL at *
  have HAL := Lib.hid hAL
  generalize hRL : (stR all).length = RL at *
  have HRLE := Lib.hid hRL
  generalize hHS : stH all = HS at *
  generalize hRS : stR all = RS at *
  clear ht hn hz hB hlen hblk hown hvp hvt hpt hib hp hw1 hAL hRL hHS hRS
  go_enter Tryz.func119, Tryz.ntmps119
  go_upto_region 1 with fail
  rw [← HW1.out]
  obtain ⟨d0, d9, d10, g9, g10⟩ := HB1.out.cells
  have HDS := Lib.hid (⟨d0, d9, d10, g9, g10⟩ : _ ∧ _ ∧ _ ∧ _ ∧ _)
  clear c0 c9 c10 f9 f10 d0 d10
  go_wp2_with (at_builtin; refine wpList_append_any rfl _ _ 62 rfl 5 i0 (.int .u8 0) 1 1 Tryz.underlying62 hi hz0 hz1 hz2 rfl (by decide) (.slice vo RL vc) RL (RS.map (Value.int .u8)) rfl HO1.out ao n cap (bs.map (Value.int .u8)) rfl ?c1 ?c2 ?c3 (ints_one _ _) ?c5 ?c6 ?_)
  case c1 => simp; exact HN.out
  case c2 => intro e; have := HZ1.out; rw [e] at this; have := ints_none this; have := HN.out; omega
  case c3 => exact src_ints HZ1.out
  case c5 => have := HRL.out; have := HL.out; unfold maxLen; omega
  case c6 => have := HRL.out; have := HL.out; omega
  intro ao' cap' w2 hown hgrow hat hnn
  have HB2 := Lib.hid (HB1.out.same (hgrow.block p HB1.out.lt (fun e => HVP.out e.symm)))
  obtain ⟨q0, q9, q10, r9, r10⟩ := HB2.out.cells
  have HT2 := Lib.hid (HT1.out.same (hgrow.block tb HT1.out.lt (fun e => HVT.out e.symm)))
  have HK2 : Hid (Keeps (fpH p tb (.slice vo RL vc)) w w2) := Lib.hid ((HK1.out.mono (fun i _ h => Or.inr (Or.inl h))).grown hgrow (fun k hk => Or.inl (Or.inr (Or.inr hk))))
  have HS1 := Lib.hid HK1.out.size
  have HAT : Hid (∀ g, (Value.slice ao' (RL + n) cap').ownBlock = some g → g ≠ p ∧ g ≠ tb) := Lib.hid (by
    intro g hg
    have hpl := HB1.out.lt
    have htl := HT1.out.lt
    rcases hat g hg with h | h
    · exact ⟨fun e => HVP.out (by rw [h, e]), fun e => HVT.out (by rw [h, e])⟩
    · exact ⟨by omega, by omega⟩)
  have hown' : w2.ownsRow 0 5 1 (.slice ao' (RL + n) cap') (RL + n) ((RS ++ bs).map (Value.int .u8)) := by simpa using hown
  obtain ⟨hrl, hra, hrc, hrm⟩ := owns_at hown'
  obtain ⟨ROW, hrow⟩ : ∃ r, r = RS ++ bs := ⟨_, rfl⟩
  have HROW := Lib.hid hrow
  rw [← hrow] at hrl hra
  have HRA := Lib.hid hra
  have HRLN := Lib.hid hrl
  have HRB : Hid (InB ROW) := Lib.hid (by rw [hrow]; exact inB_app HRI.out HBB.out)
  obtain ⟨w3, hw3⟩ : ∃ w3, w3 = w2.setCell ⟨p, 9, none⟩ (.slice ao' (RL + n) cap') := ⟨_, rfl⟩
  have HW3 := Lib.hid hw3
  have HB3 : Hid (HBlk w3 p tb HS (.slice ao' (RL + n) cap') (AL + n)) := Lib.hid (by rw [hw3]; exact HB2.out.setV _)
  have HK3' : Hid (Keeps (fun i => i = p) w2 w3) := Lib.hid (by rw [hw3]; exact (Keeps.refl (fun i => i = p) w2).setCell (p := ⟨p, 9, none⟩) (Or.inl rfl) _)
  have HK3 : Hid (Keeps (fpH p tb (.slice vo RL vc)) w w3) := Lib.hid (HK2.out.trans HK3'.out (fun i h => Or.inl (Or.inr (Or.inl h))))
  have HT3 := Lib.hid (HT2.out.same (HK3'.out.block tb HT2.out.lt (by have := HPT.out; omega)))
  have HRA3 : Hid (IntsAt .u8 w3 ao' ROW) := Lib.hid (HRA.out.same (fun a ha hl => HK3'.out.block a.block hl (HAT.out a.block (by rw [ha]; rfl)).1))
  clear hown hgrow hat hnn hown' hrl hra hrow hw3
  go_wp2_with fail
  rw [← HW3.out]
  clear q0 q9 q10 r9 r10 d9 g9 g10
  go_loopw [] (fun wr => ∃ (k m : Nat) (ak : Option Addr) (ck : Nat), m + 64 * k = RL + n ∧ HBlk wr p tb (absN k HS ROW).1 (.slice ak m ck) (AL + n) ∧ IntsAt .u8 wr ak (ROW.drop (64 * k)) ∧ (∀ a, ak = some a → a.block ≠ p ∧ a.block ≠ tb) ∧ m ≤ ck ∧ ck ≤ maxLen ∧ TabOk wr tb ∧ Keeps (fpH p tb (.slice vo RL vc)) w wr) (fun wr => restLen p wr)
  case atStart => exact ⟨0, RL + n, ao', cap', rfl, HB3.out, HRA3.out, fun a ha => HAT.out a.block (by rw [ha]; rfl), hrc, hrm, HT3.out, HK3.out⟩
  case round =>
    obtain ⟨k, m, ak, ck, hm, hb, hra, hak, hck, hcm, ht, hkp⟩ := hrel
    have HM := Lib.hid hm
    have HB4 := Lib.hid hb
    have HR4 := Lib.hid hra
    have HA4 := Lib.hid hak
    have HCK := Lib.hid hck
    have HCM := Lib.hid hcm
    have HT4 := Lib.hid ht
    have HK4 := Lib.hid hkp
    have HDL : Hid ((ROW.drop (64 * k)).length = m) := Lib.hid (by have := HRLN.out; simp; omega)
    obtain ⟨q0, q9, q10, r9, r10⟩ := hb.cells
    clear hm hb hra hak hck hcm ht hkp q10 r10
    by_cases h64 : 64 ≤ m
    · have j1 : (64 : Int) ≤ (m : Int) := by omega
      have j2 : (64 : Int) ≤ (ck : Int) := by have := HCK.out; omega
      obtain ⟨b, off, rfl⟩ : ∃ b off, ak = some ⟨b, off, none⟩ := by
        rcases HR4.out with h | ⟨b, off, h, _⟩
        · have := HDL.out; rw [h] at this; simp at this; omega
        · exact ⟨b, off, h⟩
      have HLN := Lib.hid (absN_len k HS ROW H8.out)
      have HIN := Lib.hid (absN_in k HS ROW H8I.out)
      have HSC := Lib.hid (absN_succ k HS ROW)
      have HMX := Lib.hid (mix_any tb p 1 193 (some ⟨b, off, none⟩) ((ROW.drop (64 * k)).take 64) ck (absN k HS ROW).1 wr.drew (HT4.out.same rfl) HLN.out HPT.out _ (HB4.out.arr.same rfl) HIN.out (by have := HDL.out; simp [List.length_take] at *; omega) ((HR4.out.same (w' := wr.drew) (fun _ _ _ => rfl)).take 64) (inB_take (inB_drop HRB.out _) _) (by omega))
      go_wp2_with fail
      refine wp_region_held_drew (S := fun w' => w'.cell? ⟨p, 0, none⟩ = some (.pointer (some ⟨tb, 0, none⟩)) ∧ w'.cell? ⟨p, 9, none⟩ = some (.slice (some ⟨b, off, none⟩) m ck)) (by kernel_rfl) ?_ (fun hHeld => ?_)
      · exact ⟨q0, q9⟩
      refine take_at (i := 0) (d := 29) (v := ?_) rfl rfl (by kernel_rfl) (by kernel_rfl) (by kernel_rfl) (fun _ _ _ h => h) (Or.inl ⟨by rfl, by intro w' hSw; (try dsimp only at hSw); go_simp; try with_reducible rfl⟩) (by assumption) ?_
      simp only [List.setIfInBounds_toArray, List.set_cons_zero, List.set_cons_succ]
      refine take_at (i := 1) (d := 30) (v := ?_) rfl rfl (by kernel_rfl) (by kernel_rfl) (by kernel_rfl) (fun _ _ _ h => h) (Or.inl ⟨by rfl, by intro w' hSw; (try dsimp only at hSw); go_simp; try with_reducible rfl⟩) (by assumption) ?_
      simp only [List.setIfInBounds_toArray, List.set_cons_zero, List.set_cons_succ]
      refine take_at (i := 2) (d := 31) (v := ?_) rfl rfl (by kernel_rfl) (by kernel_rfl) (by kernel_rfl) (fun _ _ _ h => h) (Or.inl ⟨by rfl, by intro w' hSw; (try dsimp only at hSw); go_simp; try with_reducible rfl⟩) (by assumption) ?_
      simp only [List.setIfInBounds_toArray, List.set_cons_zero, List.set_cons_succ]
      refine take_at (i := 3) (d := 32) (v := ?_) rfl rfl (by kernel_rfl) (by kernel_rfl) (by kernel_rfl) (fun _ _ _ h => h) (Or.inl ⟨by rfl, by intro w' hSw; (try dsimp only at hSw); go_simp; try with_reducible rfl⟩) (by assumption) ?_
      simp only [List.setIfInBounds_toArray, List.set_cons_zero, List.set_cons_succ]
      refine take_at (i := 4) (d := 33) (v := ?_) rfl rfl (by kernel_rfl) (by kernel_rfl) (by kernel_rfl) (fun _ _ _ h => h) (Or.inl ⟨by rfl, by intro w' hSw; (try dsimp only at hSw); go_simp; try with_reducible rfl⟩) (by assumption) ?_
      simp only [List.setIfInBounds_toArray, List.set_cons_zero, List.set_cons_succ]
      refine take_at (i := 5) (d := 34) (v := ?_) rfl rfl (by kernel_rfl) (by kernel_rfl) (by kernel_rfl) (fun _ _ _ h => h) (Or.inl ⟨by rfl, by intro w' hSw; (try dsimp only at hSw); go_simp; try with_reducible rfl⟩) (by assumption) ?_
      simp only [List.setIfInBounds_toArray, List.set_cons_zero, List.set_cons_succ]
      refine take_at (i := 6) (d := 35) (v := ?_) rfl rfl (by kernel_rfl) (by kernel_rfl) (by kernel_rfl) (fun _ _ _ h => h) (Or.inl ⟨by rfl, by intro w' hSw; (try dsimp only at hSw); go_simp; try with_reducible rfl⟩) (by assumption) ?_
      simp only [List.setIfInBounds_toArray, List.set_cons_zero, List.set_cons_succ]
      refine take_at (i := 7) (d := 36) (v := ?_) rfl rfl (by kernel_rfl) (by kernel_rfl) (by kernel_rfl) (fun _ _ _ h => h) (Or.inl ⟨by rfl, by intro w' hSw; (try dsimp only at hSw); go_simp; try with_reducible rfl⟩) (by assumption) ?_
      simp only [List.setIfInBounds_toArray, List.set_cons_zero, List.set_cons_succ]
      refine take_at (i := 8) (d := 37) (v := ?_) rfl rfl (by kernel_rfl) (by kernel_rfl) (by kernel_rfl) (fun _ _ _ h => h) (Or.inl ⟨by rfl, by intro w' hSw; (try dsimp only at hSw); go_simp; try with_reducible rfl⟩) (by assumption) ?_
      simp only [List.setIfInBounds_toArray, List.set_cons_zero, List.set_cons_succ]
      refine take_at (i := 9) (d := 38) (v := ?_) rfl rfl (by kernel_rfl) (by kernel_rfl) (by kernel_rfl) (fun _ _ _ h => h) (Or.inl ⟨by rfl, by intro w' hSw; (try dsimp only at hSw); go_simp; try with_reducible rfl⟩) (by assumption) ?_
      simp only [List.setIfInBounds_toArray, List.set_cons_zero, List.set_cons_succ]
      refine take_at (i := 10) (d := 39) (v := ?_) rfl rfl (by kernel_rfl) (by kernel_rfl) (by kernel_rfl) (fun _ _ _ h => h) (Or.inl ⟨by rfl, by intro w' hSw; (try dsimp only at hSw); go_simp; try with_reducible rfl⟩) (by assumption) ?_
      simp only [List.setIfInBounds_toArray, List.set_cons_zero, List.set_cons_succ]
      refine take_at (i := 11) (d := 40) (v := ?_) rfl rfl (by kernel_rfl) (by kernel_rfl) (by kernel_rfl) (fun _ _ _ h => h) (Or.inl ⟨by rfl, by intro w' hSw; (try dsimp only at hSw); go_simp; try with_reducible rfl⟩) (by assumption) ?_
      simp only [List.setIfInBounds_toArray, List.set_cons_zero, List.set_cons_succ]
      refine wpAnyH_ready (rs := [12]) (by kernel_rfl) (by simp) ?_
      refine AllReadyH.cons rfl (fun K hK => ?_) AllReadyH.nil
      go_simp
      go_at_call 129
      refine HMX.out.mono ?_
      rintro e w7 ⟨rfl, ht7, ha7, hk7⟩
      have HT7 := Lib.hid ht7
      have HB7 : Hid (HBlk w7 p tb (absN (k + 1) HS ROW).1 (.slice (some ⟨b, off, none⟩) m ck) (AL + n)) := Lib.hid (HBlk.of (by rw [HSC.out]; exact ha7) (absN_len _ _ _ H8.out))
      have HK7 : Hid (Keeps (fun i => i = tb ∨ i = p) wr w7) := Lib.hid (((Keeps.refl (fun i => i = tb ∨ i = p) wr).drew).trans hk7 (fun i h => Or.inl h))
      clear ht7 ha7 hk7
      dsimp only
      go_wp2_with fail
      refine hK.out _ _ ?_ (fun hHeld => ?_)
      · exact ⟨HB7.out.cells.1, HB7.out.cells.2.1⟩
      clear hK K
      try simp only [Act.put, List.getElem_toArray, List.getElem_cons_succ, List.getElem_cons_zero]
      try simp only [List.setIfInBounds_toArray, List.set_cons_zero, List.set_cons_succ]
      refine wpAnyH_done (by kernel_rfl) ?_ _
      obtain ⟨_, q9, _, r9, _⟩ := HB7.out.cells
      clear q0 hHeld
      go_wp2_with fail
      obtain ⟨A, hA⟩ : ∃ A : Option Addr, A = if ck = 64 then some ⟨b, off, none⟩ else some ⟨b, off + 64, none⟩ := ⟨_, rfl⟩
      rw [← hA]
      have HB8 := Lib.hid (HB7.out.setV (.slice A (m - 64) (ck - 64)))
      have HK8 : Hid (Keeps (fun i => i = p) w7 (w7.setCell ⟨p, 9, none⟩ (.slice A (m - 64) (ck - 64)))) := Lib.hid ((Keeps.refl (fun i => i = p) w7).setCell (p := ⟨p, 9, none⟩) (Or.inl rfl) _)
      have hab : b ≠ p ∧ b ≠ tb := HA4.out _ rfl
      have hAB : ∀ a, A = some a → a.block = b := by
        intro a ha
        rw [hA] at ha
        split at ha
        · cases ha; rfl
        · cases ha; rfl
      have hbl : ROW.drop (64 * k) ≠ [] → b < wr.heap.size := fun h => HR4.out.lt h
      have hbl2 : b < wr.heap.size := hbl (by intro e; have := HDL.out; rw [e] at this; simp at this; omega)
      have h7 := HK7.out
      have hra8 : IntsAt .u8 (w7.setCell ⟨p, 9, none⟩ (.slice A (m - 64) (ck - 64))) A (ROW.drop (64 * (k + 1))) := by
        have e0 : ROW.drop (64 * (k + 1)) = (ROW.drop (64 * k)).drop 64 := by rw [List.drop_drop]; congr 1
        rw [e0]
        have h1 := (HR4.out.drop 64).same (w' := w7.setCell ⟨p, 9, none⟩ (.slice A (m - 64) (ck - 64))) (fun a ha hl => by
          cases ha
          exact (HK8.out.block b (by have := h7.size; exact Nat.lt_of_lt_of_le hbl2 this) hab.1).trans (h7.block b hbl2 (by rintro (h | h); exact hab.2 h; exact hab.1 h)))
        by_cases h64 : ck = 64
        · refine Or.inl (List.eq_nil_of_length_eq_zero ?_)
          have := HDL.out
          have := HCK.out
          simp only [List.length_drop] at *
          omega
        · have e : A = some ⟨b, off + 64, none⟩ := by rw [hA, if_neg h64]
          rw [← e] at h1; exact h1
      have hcm := HCM.out
      have hcmk := HCK.out
      have hm := HM.out
      refine ⟨⟨k + 1, m - 64, A, ck - 64, by omega, HB8.out, hra8, fun a ha => by rw [hAB a ha]; exact hab, by omega, by omega, HT7.out.same (HK8.out.block tb HT7.out.lt (by have := HPT.out; omega)), (HK4.out.trans h7 (fun i h => Or.inl (h.imp id Or.inl))).trans HK8.out (fun i h => Or.inl (Or.inr (Or.inl h)))⟩, ?_⟩
      unfold restLen
      rw [HB8.out.cells.2.1, HB4.out.cells.2.1]
      dsimp only
      omega
    · have j1 : ¬ (64 : Int) ≤ (m : Int) := by omega
      have HML : Hid (m ≤ 140737488355328) := Lib.hid (by omega)
      have HST := Lib.hid (HHS.out bs k (by have := HM.out; have := HRLN.out; rw [← HROW.out]; omega) (by have := HM.out; have := HRLN.out; rw [← HROW.out]; omega))
      rw [← HROW.out] at HST
      generalize ROW.drop (64 * k) = D at *
      have HCL := Lib.hid (clone_u8 ak D m ck wr HDL.out HR4.out HML.out)
      go_wp2_with fail
      refine HCL.out.mono ?_
      rintro e w8 ⟨ao8, cap8, rfl, hown8, hbel8, hfr8⟩
      have HO8 := Lib.hid hown8
      have HF8 := Lib.hid hfr8
      have HL8 := Lib.hid hbel8
      have HB8 := Lib.hid (HB4.out.same (hbel8.block p HB4.out.lt))
      have HT8 := Lib.hid (HT4.out.below hbel8)
      obtain ⟨_, q9', _, r9', _⟩ := HB8.out.cells
      clear hown8 hbel8 hfr8 q9 r9 q0
      go_wp2_with fail
      generalize hM8 : D.length = M8 at *
      have HK9 : Hid (Keeps (fun i => i = p) w8 (w8.setCell ⟨p, 9, none⟩ (.slice ao8 M8 cap8))) := Lib.hid ((Keeps.refl (fun i => i = p) w8).setCell (p := ⟨p, 9, none⟩) (Or.inl rfl) _)
      go_end0
      refine ⟨rfl, .slice ao8 M8 cap8, HT8.out.same (HK9.out.block tb HT8.out.lt (by have := HPT.out; omega)), ⟨?_, ?_, ?_, ?_, HPT.out, inB_app HH.out.2.2.2.2.2 HBB.out⟩, (HK4.out.trans (Keeps.of_below (S := fun _ => False) HL8.out) (fun _ h => h.elim)).trans HK9.out (fun i h => Or.inl (Or.inr (Or.inl h))), fun g hg => Nat.le_trans HK4.out.size (HF8.out g hg)⟩
      · rw [HST.out.1, show (((all ++ bs).length : Nat) : Int) = AL + n by have := HAL.out; have := HN.out; simp; omega]
        exact HB8.out.setV _
      · rw [HST.out.2]
        have hh := HO8.out
        rw [hM8]
        exact ownsRow_same hh (fun g hg => HK9.out.block g (hh.lt g hg).2 (by have := HF8.out g hg; have := HB4.out.lt; omega))
      · intro e
        have := HF8.out p e
        have := HB4.out.lt
        omega
      · intro e
        have := HF8.out tb e
        have := HT4.out.lt
        omega

theorem bytesBE_inB (n : Int) : ∀ k, InB (bytesBE n k)
  | 0 => fun z hz => by cases hz
  | k + 1 => fun z hz => by
    rcases List.mem_cons.1 hz with rfl | h
    · omega
    · exact bytesBE_inB n k z h
/-- A row of the call's own grows. -/
def GrowPost (w : World) (v : Value) (xs : List Int) (e : Ending) (w' : World) : Prop :=
  ∃ ao cap, e = .returned (.slice ao xs.length cap) ∧ w'.ownsRow 0 5 1 (.slice ao xs.length cap) xs.length (xs.map (Value.int .u8)) ∧ Keeps (fun i => v.ownBlock = some i) w w' ∧ (∀ g, (Value.slice ao xs.length cap).ownBlock = some g → v.ownBlock = some g ∨ w.heap.size ≤ g)

set_option maxRecDepth 100000 in
set_option maxHeartbeats 1000000 in
theorem lays_any (ao : Option Addr) (zs : List Int) (n0 cap : Nat) (n : Int) (size : Nat) (w : World) (hn : zs.length = n0) (hn1 : 0 ≤ n) (hn2 : n < 18446744073709551616) (hs : size ≤ 8) (hown : w.ownsRow 0 5 1 (.slice ao n0 cap) n0 (zs.map (Value.int .u8))) (hlen : n0 + 8 ≤ 140737488355328) :
    Calls Tryz.prog 130 #[.slice ao n0 cap, .int .u64 n, .int .i64 size] w fun e w' => GrowPost w (.slice ao n0 cap) (zs ++ bytesBE n size) e w' := by
  have HN := Lib.hid hn
  have HO := Lib.hid hown
  have HL := Lib.hid hlen
  have HS := Lib.hid hs
  obtain ⟨i0, hi, hz0, hz1, hz2⟩ := info_parts Try_infoU8
  have HSZ := Lib.hid (show wrap64 ((size : Int) - 1) = (size : Int) - 1 by unfold wrap64; omega)
  clear hn hown hlen hs
  go_enter Tryz.func130, Tryz.ntmps130
  go_wp2_with fail
  go_loopw [0, 7] (fun v k wr => ∃ (j : Nat) (cur : List Int) (a1 : Option Addr) (c1 : Nat), j ≤ size ∧ k = .int .i64 ((j : Int) - 1) ∧ v = .slice a1 cur.length c1 ∧ cur ++ bytesBE n j = zs ++ bytesBE n size ∧ wr.ownsRow 0 5 1 (.slice a1 cur.length c1) cur.length (cur.map (Value.int .u8)) ∧ Keeps (fun i => (Value.slice ao n0 cap).ownBlock = some i) w wr ∧ (∀ g, (Value.slice a1 cur.length c1).ownBlock = some g → (Value.slice ao n0 cap).ownBlock = some g ∨ w.heap.size ≤ g)) (fun _ k _ => (intOf k + 1).toNat)
  case atStart => exact ⟨size, zs, ao, cap, Nat.le_refl _, by rw [HSZ.out], by rw [HN.out], rfl, by rw [HN.out]; exact HO.out, Keeps.refl _ _, fun g hg => Or.inl (by rw [HN.out] at hg; exact hg)⟩
  case round =>
    obtain ⟨j, cur, a1, c1, hj, rfl, rfl, he, ho, hk, hf⟩ := hrel
    have HE := Lib.hid he
    have HOR := Lib.hid ho
    have HKR := Lib.hid hk
    have HFR := Lib.hid hf
    have HJ := Lib.hid hj
    clear he ho hk hf hj
    cases j with
    | zero =>
      have HE0 : Hid (cur = zs ++ bytesBE n size) := Lib.hid (by have := HE.out; simpa [bytesBE] using this)
      go_wp2
      go_ret
      obtain rfl := HE0.out
      exact ⟨a1, c1, rfl, HOR.out, HKR.out, HFR.out⟩
    | succ j =>
      have j8 : (j : Int) < 8 := by have := HJ.out; have := HS.out; omega
      have hw : wrap64 (8 * (j : Int)) = 8 * (j : Int) := by unfold wrap64; omega
      have hs0 : (0 : Int) ≤ 8 * (j : Int) := by omega
      have hs1 : (8 : Int) * (j : Int) ≤ 64 := by omega
      have HP : Hid ((2 : Int) ^ ((8 * (j : Int)).toNat) = 256 ^ j) := Lib.hid (by
        rw [show (8 * (j : Int)).toNat = 8 * j by omega, show (256 : Int) = 2 ^ 8 from by decide, ← Int.pow_mul])
      have HCL : Hid (cur.length + 1 ≤ n0 + size) := Lib.hid (by
        have h1 := congrArg List.length HE.out
        simp only [List.length_append, bytesBE_len, HN.out] at h1
        omega)
      have HE1 : Hid ((cur ++ [n / 256 ^ j % 256]) ++ bytesBE n j = zs ++ bytesBE n size) := Lib.hid (by
        have h1 := HE.out
        rw [List.append_assoc]; exact h1)
      go_wp2_with (at_builtin; refine wpList_append_any rfl _ _ 62 rfl 5 i0 (.int .u8 0) 1 1 Tryz.underlying62 hi hz0 hz1 hz2 rfl (by decide) (.slice a1 cur.length c1) cur.length (cur.map (Value.int .u8)) rfl (HOR.out.alloc _) (some ⟨wr.heap.size, 0, none⟩) 1 1 [.int .u8 (n / 2 ^ ((8 * (j : Int)).toNat) % 256)] rfl rfl ?c2 (fun ad had => by cases had; exact cell_one_new _ _ _) (by simp [Value.oneCell']) ?c5 ?c6 ?_)
      case c2 => intro e; cases e
      case c5 => have := HCL.out; have := HL.out; have := HS.out; unfold maxLen; omega
      case c6 => have := HCL.out; have := HL.out; have := HS.out; omega
      intro ao' cap' w2 hown hgrow hat hnn
      rw [HP.out] at hown
      have HO2 : Hid (w2.ownsRow 0 5 1 (.slice ao' (cur.length + 1) cap') (cur.length + 1) ((cur ++ [n / 256 ^ j % 256]).map (Value.int .u8))) := Lib.hid (by simpa using hown)
      have HK2 : Hid (Keeps (fun i => (Value.slice ao n0 cap).ownBlock = some i) w w2) := Lib.hid ((HKR.out.alloc _).grown hgrow (fun k hk => HFR.out k hk))
      have HF2 : Hid (∀ g, (Value.slice ao' (cur.length + 1) cap').ownBlock = some g → (Value.slice ao n0 cap).ownBlock = some g ∨ w.heap.size ≤ g) := Lib.hid (fun g hg => by
        rcases hat g hg with h | h
        · exact HFR.out g h
        · exact Or.inr (by have := HKR.out.size; omega))
      clear hown hgrow hat hnn
      go_wp2
      go_roundw
      case rel =>
        first | exact ⟨j, cur ++ [n / 256 ^ j % 256], ao', cap', by have := HJ.out; omega, by go_num, by simp, HE1.out, by simpa using HO2.out, HK2.out, by simpa using HF2.out⟩ | ((repeat apply Exists.intro); refine ⟨?_, rfl⟩; exact ⟨j, cur ++ [n / 256 ^ j % 256], ao', cap', by have := HJ.out; omega, by go_num, by simp, HE1.out, by simpa using HO2.out, HK2.out, by simpa using HF2.out⟩)
      case measure => simp [intOf]; try omega

attribute [local go_sem] Oper.semAt_some

/-- What a round keeps: two boxes. -/
def KpB (Bs Bn : Nat) (W W' : World) : Prop := W'.heap[Bs]? = W.heap[Bs]? ∧ W'.heap[Bn]? = W.heap[Bn]?
theorem KpB.trans {Bs Bn : Nat} {A B C : World} (h : KpB Bs Bn A B) (k : KpB Bs Bn B C) : KpB Bs Bn A C := ⟨k.1.trans h.1, k.2.trans h.2⟩
theorem fin_take (N k : Nat) (h : k < N) : (List.finRange N).take (k + 1) = (List.finRange N).take k ++ [⟨k, h⟩] := by
  rw [List.take_succ_eq_append_getElem (by simp; exact h)]
  simp
def chunkV (g off k : Nat) : Value := .slice (some ⟨g, off + 64 * k, none⟩) 64 64

set_option maxRecDepth 100000 in
set_option maxHeartbeats 2000000 in
theorem chunk1_in (n : Nat) (hn : 1 ≤ n) (l Bs Bn g off cap len N : Nat) (hlen : len = 64 * N) (hcap : len ≤ cap) (hreach : len ≤ 140737488351232) (J Jx : List (Fin N) → World → Prop)
    (hY : ∀ pre x W, J pre W → pre.length < N → YieldAt Fence.wide (n - 1) Tryz.prog l #[chunkV g off x.val] W fun e W' =>
      (e = .returned (.bool true) ∧ J (pre ++ [x]) W' ∧ KpB Bs Bn W W') ∨ (e = .returned (.bool false) ∧ Jx (pre ++ [x]) W'))
    (W : World) (hJd : ∀ s A, J s A → J s A.drew) (hBs : W.cell? ⟨Bs, 0, none⟩ = some (.slice (some ⟨g, off, none⟩) len cap)) (hBn : W.cell? ⟨Bn, 0, none⟩ = some (.int .i64 64)) (h0 : J [] W) :
    CallsIn Fence.wide n Tryz.prog 138 #[.func (.yield l) #[] #[], .pointer (some ⟨Bs, 0, none⟩), .pointer (some ⟨Bn, 0, none⟩)] W fun e W' => (∃ v, e = .returned v) ∧
      ((∃ ys, ys = List.finRange N ∧ J ys W') ∨ (∃ pre, (∃ k, k ≤ N ∧ pre = (List.finRange N).take k) ∧ Jx pre W')) := by
  refine callsIn_of_wp Tryz.func138 rfl trivial ?_ rfl
  simp only [Tryz.ntmps138, List.size_toArray, List.length_cons, List.length_nil, Nat.reduceAdd, Nat.reduceSub, Array.replicate_succ, Array.replicate_zero, List.push_toArray, List.append_toArray, List.nil_append, List.cons_append]
  gi_wp2
  gi_loopw [4] (fun i wr => ∃ k : Nat, k ≤ N ∧ i = .int .i64 ((64 * k : Nat) : Int) ∧ J ((List.finRange N).take k) wr ∧ KpB Bs Bn W wr)
    (fun i _ => len - (intOf i).toNat)
  case atStart => exact ⟨0, Nat.zero_le _, rfl, h0, rfl, rfl⟩
  case round =>
    obtain ⟨k, hk, rfl, hJs, hkb⟩ := hrel
    have c1 : wr.cell? ⟨Bs, 0, none⟩ = some (.slice (some ⟨g, off, none⟩) len cap) := (World.cell?_of_block (a := ⟨Bs, 0, none⟩) hkb.1).trans hBs
    have c2 : wr.cell? ⟨Bn, 0, none⟩ = some (.int .i64 64) := (World.cell?_of_block (a := ⟨Bn, 0, none⟩) hkb.2).trans hBn
    by_cases hlt : k < N
    · have e1 : ((64 * k : Nat) : Int).toNat = 64 * k := by omega
      have b0 : (0 : Int) ≤ ((64 * k : Nat) : Int) := by omega
      have b1 : ((64 * k : Nat) : Int) < (len : Int) := by omega
      have b2 : ((64 * k : Nat) : Int) ≤ (len : Int) := by omega
      have b3 : 64 * k ≤ len := by omega
      have b4 : len ≤ cap := hcap
      have b5 : ¬ cap = 64 * k := by omega
      generalize hK : 64 * k = K at *
      have HLEN := Lib.hid hlen
      have HK := Lib.hid hK
      clear hlen hK
      gi_wp2
      refine wpIn_wide.2 ?_
      refine wp_region_held_drew (S := fun w' => w'.cell? ⟨Bs, 0, none⟩ = some (.slice (some ⟨g, off, none⟩) len cap) ∧ w'.cell? ⟨Bn, 0, none⟩ = some (.int .i64 64)) (by kernel_rfl) ?_ (fun hHeld => ?_)
      · exact ⟨c1, c2⟩
      refine take_at (i := 0) (d := 13) (v := ?_) rfl rfl (by kernel_rfl) (by kernel_rfl) (by kernel_rfl) (fun _ _ _ h => h) (Or.inl ⟨by rfl, by intro w' hSw; (try dsimp only at hSw); go_simp; try with_reducible rfl⟩) (by assumption) ?_
      simp only [List.setIfInBounds_toArray, List.set_cons_zero, List.set_cons_succ]
      refine take_at (i := 1) (d := 14) (v := ?_) rfl rfl (by kernel_rfl) (by kernel_rfl) (by kernel_rfl) (fun _ _ _ h => h) (Or.inl ⟨by rfl, by intro w' hSw; (try dsimp only at hSw); go_simp; try with_reducible rfl⟩) (by assumption) ?_
      simp only [List.setIfInBounds_toArray, List.set_cons_zero, List.set_cons_succ]
      refine take_at (i := 2) (d := 15) (v := ?_) rfl rfl (by kernel_rfl) (by kernel_rfl) (by kernel_rfl) (fun _ _ _ h => h) (Or.inl ⟨by rfl, by intro w' hSw; (try dsimp only at hSw); go_simp; try with_reducible rfl⟩) (by assumption) ?_
      simp only [List.setIfInBounds_toArray, List.set_cons_zero, List.set_cons_succ]
      refine take_at (i := 3) (d := 16) (v := ?_) rfl rfl (by kernel_rfl) (by kernel_rfl) (by kernel_rfl) (fun _ _ _ h => h) (Or.inl ⟨by rfl, by intro w' hSw; (try dsimp only at hSw); go_simp; try with_reducible rfl⟩) (by assumption) ?_
      simp only [List.setIfInBounds_toArray, List.set_cons_zero, List.set_cons_succ]
      refine take_at (i := 4) (d := 17) (v := ?_) rfl rfl (by kernel_rfl) (by kernel_rfl) (by kernel_rfl) (fun _ _ _ h => h) (Or.inl ⟨by rfl, by intro w' hSw; (try dsimp only at hSw); go_simp; try with_reducible rfl⟩) (by assumption) ?_
      simp only [List.setIfInBounds_toArray, List.set_cons_zero, List.set_cons_succ]
      refine take_at (i := 5) (d := 18) (v := ?_) rfl rfl (by kernel_rfl) (by kernel_rfl) (by kernel_rfl) (fun _ _ _ h => h) (Or.inl ⟨by rfl, by intro w' hSw; (try dsimp only at hSw); go_simp; try with_reducible rfl⟩) (by assumption) ?_
      simp only [List.setIfInBounds_toArray, List.set_cons_zero, List.set_cons_succ]
      refine take_at (i := 6) (d := 5) (v := ?_) rfl rfl (by kernel_rfl) (by kernel_rfl) (by kernel_rfl) (fun _ _ _ h => h) (Or.inl ⟨by rfl, by intro w' hSw; (try dsimp only at hSw); go_simp; try with_reducible rfl⟩) (by assumption) ?_
      simp only [List.setIfInBounds_toArray, List.set_cons_zero, List.set_cons_succ]
      refine wpAnyH_done (by kernel_rfl) ?_ _
      have b6 : ¬ ((len - K : Nat) : Int) < 64 := by have := HLEN.out; have := HK.out; omega
      simp only [if_neg b6]
      obtain ⟨fn, tmps, assign, body, hy, hR⟩ := hY ((List.finRange N).take k) ⟨k, hlt⟩ wr.drew (hJd _ _ hJs) (by simp; omega)
      unfold chunkV at hy
      rw [HK.out] at hy
      have b7 : ((K : Int) + 64) ≤ (cap : Int) := by have := HLEN.out; have := HK.out; omega
      have b8 : K + 64 ≤ cap := by omega
      have e2 : ((K : Int) + 64).toNat = K + 64 := by omega
      have e3 : wrap64 ((K : Int) + 64) = (K : Int) + 64 := by unfold wrap64; omega
      obtain ⟨c1, c2⟩ := hHeld
      have e4 : K + 64 - K = 64 := by omega
      have b9 : (K : Int) ≤ (K : Int) + 64 := by omega
      gi_wp2
      refine hR.mono ?_
      rintro e W3 (⟨rfl, hJ3, hk3⟩ | ⟨rfl, hJx3⟩)
      · have hk4 : KpB Bs Bn W W3 := hkb.trans (KpB.trans ⟨rfl, rfl⟩ hk3)
        have c3 : W3.cell? ⟨Bn, 0, none⟩ = some (.int .i64 64) := (World.cell?_of_block (a := ⟨Bn, 0, none⟩) hk4.2).trans hBn
        gi_wp2
        go_roundw
        case rel => exact ⟨k + 1, by omega, by have := HK.out; first | rfl | (congr 1; omega), by rw [fin_take N k hlt]; exact hJ3, hk4⟩
        case measure => simp [intOf]; omega
      · gi_wp2
        refine bodyPost_ret (results_none rfl _ _ _) rfl ?_
        exact ⟨⟨_, rfl⟩, .inr ⟨_, ⟨k + 1, by omega, (fin_take N k hlt).symm⟩, hJx3⟩⟩
    · obtain rfl : k = N := by omega
      have b1 : ¬ ((64 * k : Nat) : Int) < (len : Int) := by omega
      generalize hK : 64 * k = K at *
      clear hK
      gi_wp2
      go_end0
      exact ⟨⟨_, rfl⟩, .inl (by rw [List.take_of_length_le (by simp)] at hJs; exact hJs)⟩

/-- slices.Chunk(b, 64) of a slice of 64 N bytes, N above 0. -/
theorem chunk_stops (n : Nat) (hn : 1 ≤ n) (Bs Bn g off cap len N : Nat) (hlen : len = 64 * N) (hcap : len ≤ cap) (hreach : len ≤ 140737488351232) (w : World) (hBsl : Bs < w.heap.size) (hBnl : Bn < w.heap.size)
    (hBs : w.cell? ⟨Bs, 0, none⟩ = some (.slice (some ⟨g, off, none⟩) len cap)) (hBn : w.cell? ⟨Bn, 0, none⟩ = some (.int .i64 64)) :
    SeqStopsK Fence.wide n Tryz.prog 138 #[.pointer (some ⟨Bs, 0, none⟩), .pointer (some ⟨Bn, 0, none⟩)] (fun k : Fin N => #[chunkV g off k.val]) (KpB Bs Bn) (fun ys => ys = List.finRange N) (fun pre => ∃ k, k ≤ N ∧ pre = (List.finRange N).take k) N w := fun l J Jx W hW hJ _ hY h0 => by
  have c1 := (hW.cell (p := ⟨Bs, 0, none⟩) hBsl).trans hBs
  have c2 := (hW.cell (p := ⟨Bn, 0, none⟩) hBnl).trans hBn
  exact chunk1_in n hn l Bs Bn g off cap len N hlen hcap hreach J Jx hY W (fun s A hs => hJ s A A.drew none hs ⟨rfl, rfl, rfl, Nat.le_refl _, fun _ _ _ => rfl⟩ (fun r e => by cases e)) c1 c2 h0

set_option maxHeartbeats 1000000 in
theorem chunk_any (a : Option Addr) (len cap : Nat) (w : World) :
    Calls Tryz.prog 131 #[.slice a len cap, .int .i64 64] w fun e w' => e = .returned (.func (.func 138) #[] #[.pointer (some ⟨w.heap.size, 0, none⟩), .pointer (some ⟨w.heap.size + 1, 0, none⟩)]) ∧ w' = (w.alloc (.cells #[.slice a len cap] 62)).alloc (.cells #[.int .i64 64] 3) := by
  have hmf : ∀ (fn : Fn) (first cap : Array Value) (w : World), (Instr.makeFunc fn first cap).run Tryz.prog w = .ok (.func fn first cap) w := fun _ _ _ _ => rfl
  go_enter Tryz.func131, Tryz.ntmps131
  go_wp2
  go_ret
  exact ⟨rfl, rfl⟩

attribute [local go_sem] Oper.semAt_some

theorem HBlk.cs {w : World} {p tb : Nat} {hs : List Int} {v : Value} {n : Int} (h : HBlk w p tb hs v n) : ∃ cs, w.heap[p]? = some (.cells cs 193 (0, 0)) := by
  obtain ⟨a0, a1, a2, a3, a4, a5, a6, a7, e, h⟩ := h
  exact ⟨_, h⟩
theorem fold_abs (hs PD : List Int) (N : Nat) : ∀ k, k ≤ N → ((List.finRange N).take k).foldl (fun hs x => mixF hs ((PD.drop (64 * x.val)).take 64)) hs = (absN k hs PD).1
  | 0, _ => rfl
  | k + 1, h => by
    rw [fin_take N k (by omega), List.foldl_append, fold_abs hs PD N k (by omega), absN_succ]
    rfl
def blkF (PD : List Int) {N : Nat} (hs : List Int) (x : Fin N) : List Int := mixF hs ((PD.drop (64 * x.val)).take 64)
theorem blk_len (PD : List Int) {N : Nat} (hs : List Int) (h : hs.length = 8) (pre : List (Fin N)) : (pre.foldl (blkF PD) hs).length = 8 := by
  induction pre generalizing hs with
  | nil => exact h
  | cons x pre ih => exact ih _ (mixF_len _ _ h)
theorem blk_in (PD : List Int) {N : Nat} (hs : List Int) (h : ∀ j, InU (hs.getD j 0)) (pre : List (Fin N)) : ∀ j, InU ((pre.foldl (blkF PD) hs).getD j 0) := by
  induction pre generalizing hs with
  | nil => exact h
  | cons x pre ih => exact ih _ (mixF_in _ _)
theorem TabOk.own {w w' : World} {tb B : Nat} {row : Option Nat} (h : TabOk w tb) (hg : w.grownBy w' row) (hr : ∀ r, row = some r → B ≤ r) (hB : tb < B) : TabOk w' tb :=
  h.same (hg.block tb h.lt (fun e => by have := hr tb e.symm; omega))
theorem TabOk.isCells {w : World} {tb : Nat} (h : TabOk w tb) {o : Obj} (ho : w.heap[tb]? = some o) : o.isCells = true := by
  rcases h with ⟨_, _, cs, h, _⟩ | ⟨cs, h, _⟩ <;> (rw [h] at ho; cases ho; rfl)
theorem ArrF.isCells {w : World} {b : Nat} {T : TypeId} {n off : Nat} {f : Nat → Int} {c0 : Array Value} (h : ArrF w b T n off f c0) {o : Obj} (ho : w.heap[b]? = some o) : o.isCells = true := by
  obtain ⟨cs, h, _⟩ := h
  rw [h] at ho; cases ho; rfl
theorem agg8_index (s0 s1 s2 s3 s4 s5 s6 s7 : Int) (k : Nat) (hk : k < 8) (wx : World) : (Instr.index 99 (.agg #[.int .u32 s0, .int .u32 s1, .int .u32 s2, .int .u32 s3, .int .u32 s4, .int .u32 s5, .int .u32 s6, .int .u32 s7]) (.int .i64 (k : Int))).run Tryz.prog wx = .ok (.int .u32 ([s0, s1, s2, s3, s4, s5, s6, s7].getD k 0)) wx := by
  have i0 : (Instr.index 99 (.agg #[.int .u32 s0, .int .u32 s1, .int .u32 s2, .int .u32 s3, .int .u32 s4, .int .u32 s5, .int .u32 s6, .int .u32 s7]) (.int .i64 0)).run Tryz.prog wx = .ok (.int .u32 s0) wx := by kernel_rfl
  have i1 : (Instr.index 99 (.agg #[.int .u32 s0, .int .u32 s1, .int .u32 s2, .int .u32 s3, .int .u32 s4, .int .u32 s5, .int .u32 s6, .int .u32 s7]) (.int .i64 1)).run Tryz.prog wx = .ok (.int .u32 s1) wx := by kernel_rfl
  have i2 : (Instr.index 99 (.agg #[.int .u32 s0, .int .u32 s1, .int .u32 s2, .int .u32 s3, .int .u32 s4, .int .u32 s5, .int .u32 s6, .int .u32 s7]) (.int .i64 2)).run Tryz.prog wx = .ok (.int .u32 s2) wx := by kernel_rfl
  have i3 : (Instr.index 99 (.agg #[.int .u32 s0, .int .u32 s1, .int .u32 s2, .int .u32 s3, .int .u32 s4, .int .u32 s5, .int .u32 s6, .int .u32 s7]) (.int .i64 3)).run Tryz.prog wx = .ok (.int .u32 s3) wx := by kernel_rfl
  have i4 : (Instr.index 99 (.agg #[.int .u32 s0, .int .u32 s1, .int .u32 s2, .int .u32 s3, .int .u32 s4, .int .u32 s5, .int .u32 s6, .int .u32 s7]) (.int .i64 4)).run Tryz.prog wx = .ok (.int .u32 s4) wx := by kernel_rfl
  have i5 : (Instr.index 99 (.agg #[.int .u32 s0, .int .u32 s1, .int .u32 s2, .int .u32 s3, .int .u32 s4, .int .u32 s5, .int .u32 s6, .int .u32 s7]) (.int .i64 5)).run Tryz.prog wx = .ok (.int .u32 s5) wx := by kernel_rfl
  have i6 : (Instr.index 99 (.agg #[.int .u32 s0, .int .u32 s1, .int .u32 s2, .int .u32 s3, .int .u32 s4, .int .u32 s5, .int .u32 s6, .int .u32 s7]) (.int .i64 6)).run Tryz.prog wx = .ok (.int .u32 s6) wx := by kernel_rfl
  have i7 : (Instr.index 99 (.agg #[.int .u32 s0, .int .u32 s1, .int .u32 s2, .int .u32 s3, .int .u32 s4, .int .u32 s5, .int .u32 s6, .int .u32 s7]) (.int .i64 7)).run Tryz.prog wx = .ok (.int .u32 s7) wx := by kernel_rfl
  match k, hk with
  | 0, _ => exact i0
  | 1, _ => exact i1
  | 2, _ => exact i2
  | 3, _ => exact i3
  | 4, _ => exact i4
  | 5, _ => exact i5
  | 6, _ => exact i6
  | 7, _ => exact i7
def sliceLen : Value → Nat
  | .slice _ n _ => n
  | _ => 0
def SumPost (w : World) (tb : Nat) (zs : List Int) (e : Ending) (w' : World) : Prop :=
  ∃ g cap, e = .returned (.slice (some ⟨g, 0, none⟩) 32 cap) ∧ TabOk w' tb ∧ w'.ownsRow 0 5 1 (.slice (some ⟨g, 0, none⟩) 32 cap) 32 (zs.map (Value.int .u8)) ∧ zs.length = 32 ∧ Keeps (fun i => i = tb) w w' ∧ w.heap.size ≤ g

set_option maxRecDepth 100000 in
set_option maxHeartbeats 2000000 in
theorem shaSum_any (p tb : Nat) (v : Value) (all : List Int) (w : World) (ht : TabOk w tb) (h : HashAt w p tb all v) (hlen : all.length ≤ 1099511627776) :
    Calls Tryz.prog 120 #[.pointer (some ⟨p, 0, none⟩)] w fun e w' => SumPost w tb (shaF all) e w' := by
  have HTB := Lib.hid ht
  have HH := Lib.hid h
  have HL := Lib.hid hlen
  obtain ⟨hblk, hown, hvp, hvt, hpt, hib⟩ := h
  obtain ⟨vo, vc, rfl⟩ : ∃ vo vc, v = .slice vo (stR all).length vc := by
    rcases hown.2 with ⟨hv, hn⟩ | ⟨g, cap, cur, hv, _⟩
    · exact ⟨none, 0, by rw [hv, hn]⟩
    · exact ⟨_, cap, hv⟩
  have HPT := Lib.hid hpt
  have HRL := Lib.hid (stR_len all)
  have HRA := Lib.hid (owns_at hown).2.1
  have HBL := Lib.hid hblk
  have HHL := Lib.hid hblk.lt
  obtain ⟨w1, hw1⟩ : ∃ w1, w1 = w.alloc (.cells #[.pointer (some ⟨p, 0, none⟩)] 183) := ⟨_, rfl⟩
  have hb1 : Below w.heap.size w w1 := by rw [hw1]; exact (Below.refl _ _).alloc (Nat.le_refl _) _
  have hblk1 : HBlk w1 p tb (stH all) (.slice vo (stR all).length vc) all.length := hblk.same (hb1.block p hblk.lt)
  have hbox1 : w1.heap[w.heap.size]? = some (.cells #[.pointer (some ⟨p, 0, none⟩)] 183 (0, 0)) := by rw [hw1]; exact heap_alloc_new w _
  have hs1 : w1.heap.size = w.heap.size + 1 := by rw [hw1]; simp
  have hw8 := fun j hj => hblk1.words j hj
  obtain ⟨h0, h1, h2, h3, h4, h5, h6, h7, hHS, _⟩ := hblk
  have g0 := hw8 0 (by omega)
  have g1 := hw8 1 (by omega)
  have g2 := hw8 2 (by omega)
  have g3 := hw8 3 (by omega)
  have g4 := hw8 4 (by omega)
  have g5 := hw8 5 (by omega)
  have g6 := hw8 6 (by omega)
  have g7 := hw8 7 (by omega)
  rw [hHS] at g0 g1 g2 g3 g4 g5 g6 g7
  simp only [List.getD_cons_zero, List.getD_cons_succ, Nat.reduceAdd, Nat.add_zero] at g0 g1 g2 g3 g4 g5 g6 g7
  have HHS := Lib.hid hHS
  have kb := blk_cell hbox1 0
  simp only [List.getElem?_toArray, List.getElem?_cons_zero] at kb
  obtain ⟨w2, hw2⟩ : ∃ w2, w2 = w1.alloc (.cells #[.int .u32 h0, .int .u32 h1, .int .u32 h2, .int .u32 h3, .int .u32 h4, .int .u32 h5, .int .u32 h6, .int .u32 h7] 99) := ⟨_, rfl⟩
  have hb2 : Below w1.heap.size w1 w2 := by rw [hw2]; exact (Below.refl _ _).alloc (Nat.le_refl _) _
  have hs2 : w2.heap.size = w.heap.size + 2 := by rw [hw2]; simp; omega
  have HB2 := Lib.hid (hblk1.same (hb2.block p hblk1.lt))
  have HS2 := Lib.hid hs2
  have HX2 : Hid (w2.heap[w.heap.size]? = some (.cells #[.pointer (some ⟨p, 0, none⟩)] 183 (0, 0))) := Lib.hid ((hb2.block w.heap.size (by omega)).trans hbox1)
  have HV2 : Hid (w2.heap[w.heap.size + 1]? = some (.cells #[.int .u32 h0, .int .u32 h1, .int .u32 h2, .int .u32 h3, .int .u32 h4, .int .u32 h5, .int .u32 h6, .int .u32 h7] 99 (0, 0))) := Lib.hid (by
    have := heap_alloc_new w1 (.cells #[.int .u32 h0, .int .u32 h1, .int .u32 h2, .int .u32 h3, .int .u32 h4, .int .u32 h5, .int .u32 h6, .int .u32 h7] 99)
    rw [← hw2, hs1] at this; exact this)
  have HW1 := Lib.hid hw1
  have HW2 := Lib.hid hw2
  have HS1 := Lib.hid hs1
  have HBB : Hid (Below w.heap.size w w2) := Lib.hid (hb1.trans (hb2.mono (by omega)))
  clear ht hlen hown hvp hvt hpt hib hHS hw8 hw1 hw2 hs1 hs2 hb1 hb2 hbox1 hblk1
  refine callsIn_wide.1 (callsIn_of_wp_marks (F := Fence.wide) (n := 9) Tryz.func120 rfl trivial ?_ rfl)
  simp only [Tryz.ntmps120, List.size_toArray, List.length_cons, List.length_nil, Nat.reduceAdd, Nat.reduceSub, Array.replicate_succ, Array.replicate_zero, List.push_toArray, List.append_toArray, List.nil_append, List.cons_append]
  refine wpIn_wide.2 ?_
  go_upto_region 1 with fail
  rw [← HW1.out]
  go_upto_region 2 with fail
  rw [← HW2.out, HS1.out]
  clear g0 g1 g2 g3 g4 g5 g6 g7 kb
  have kb := blk_cell HX2.out 0
  simp only [List.getElem?_toArray, List.getElem?_cons_zero] at kb
  obtain ⟨_, d9, _, _, _⟩ := HB2.out.cells
  obtain ⟨i0, hi, hz0, hz1, hz2⟩ := info_parts Try_infoU8
  have HRA2 : Hid (IntsAt .u8 w2 vo (stR all)) := Lib.hid (ints_below HRA.out HBB.out)
  have HRLE : Hid ((stR all).length ≤ 64) := Lib.hid (by have := HRL.out; omega)
  have HCL := Lib.hid (clone_u8 vo (stR all) _ vc w2 rfl HRA2.out (by have := HRLE.out; omega))
  have HPD := Lib.hid (show padF all = stR all ++ ([128] ++ List.replicate (padN all.length) 0 ++ bytesBE (8 * (all.length : Int) % 18446744073709551616) 8) from rfl)
  have HPL := Lib.hid (padF_len all)
  have HSF := Lib.hid (show shaF all = outF (absF (stH all) (padF all)).1 from rfl)
  have HRB : Hid (InB (stR all)) := Lib.hid (by rw [stR_eq]; exact inB_drop HH.out.2.2.2.2.2 _)
  generalize stR all = R at *
  go_wp2_with fail
  refine HCL.out.mono ?_
  rintro e w3 ⟨ao3, cap3, rfl, hown3, hbel3, hfr3⟩
  have HO3 := Lib.hid hown3
  have HB3 := Lib.hid hbel3
  have HF3 := Lib.hid hfr3
  clear hown3 hbel3 hfr3
  go_wp2_with (at_builtin; refine wpList_append_any rfl _ _ 62 rfl 5 i0 (.int .u8 0) 1 1 Tryz.underlying62 hi hz0 hz1 hz2 rfl (by decide) (.slice ao3 R.length cap3) R.length (R.map (Value.int .u8)) rfl (HO3.out.alloc _) (some ⟨w3.heap.size, 0, none⟩) 1 1 [.int .u8 128] rfl rfl ?c2 (fun ad had => by cases had; exact cell_one_new _ _ _) (by simp [Value.oneCell']) ?c5 ?c6 ?_)
  case c2 => intro e; cases e
  case c5 => have := HRLE.out; unfold maxLen; omega
  case c6 => have := HRLE.out; omega
  intro ao4 cap4 w4 hown hgrow hat hnn
  have HO4 : Hid (w4.ownsRow 0 5 1 (.slice ao4 (R.length + 1) cap4) (R.length + 1) ((R ++ [128]).map (Value.int .u8))) := Lib.hid (by simpa using hown)
  have HB4 : Hid (Below w2.heap.size w2 w4) := Lib.hid ((HB3.out.alloc (by have := HB3.out.size; omega) _).grown hgrow (by have := HB3.out.size; simp; omega) (fun k hk => HF3.out k hk))
  have HF4 : Hid (∀ g, (Value.slice ao4 (R.length + 1) cap4).ownBlock = some g → w2.heap.size ≤ g) := Lib.hid (fun g hg => by
    rcases hat g hg with h | h
    · exact HF3.out g h
    · have := HB3.out.size; omega)
  clear hown hgrow hat hnn kb d9
  go_wp2_with fail
  go_loopw [4] (fun v wr => ∃ (j : Nat) (cur : List Int) (a1 : Option Addr) (c1 : Nat), j ≤ padN all.length ∧ cur = R ++ ([128] ++ List.replicate j 0) ∧ v = .slice a1 cur.length c1 ∧ wr.ownsRow 0 5 1 (.slice a1 cur.length c1) cur.length (cur.map (Value.int .u8)) ∧ Below w2.heap.size w2 wr ∧ (∀ g, (Value.slice a1 cur.length c1).ownBlock = some g → w2.heap.size ≤ g)) (fun v _ => 200 - sliceLen v)
  case atStart => exact ⟨0, R ++ [128], ao4, cap4, Nat.zero_le _, by simp, by simp, by simpa using HO4.out, HB4.out, by simpa using HF4.out⟩
  case round =>
    obtain ⟨j, cur, a1, c1, hj, hc, rfl, ho, hb, hf⟩ := hrel
    have HJ := Lib.hid hj
    have HC := Lib.hid hc
    have HO := Lib.hid ho
    have HB := Lib.hid hb
    have HF := Lib.hid hf
    have HLC : Hid (cur.length = R.length + 1 + j) := Lib.hid (by rw [hc]; simp; omega)
    clear hj hc ho hb hf
    by_cases hlt : j < padN all.length
    · have hne : ((cur.length : Int) % 64 != 56) = true := by
        have h1 := HLC.out
        have h2 := HRL.out
        unfold padN at hlt
        rw [bne_iff_ne]; omega
      go_wp2_with (at_builtin; refine wpList_append_any rfl _ _ 62 rfl 5 i0 (.int .u8 0) 1 1 Tryz.underlying62 hi hz0 hz1 hz2 rfl (by decide) (.slice a1 cur.length c1) cur.length (cur.map (Value.int .u8)) rfl (HO.out.alloc _) (some ⟨wr.heap.size, 0, none⟩) 1 1 [.int .u8 0] rfl rfl ?c2 (fun ad had => by cases had; exact cell_one_new _ _ _) (by simp [Value.oneCell']) ?c5 ?c6 ?_)
      case c2 => intro e; cases e
      case c5 => have := HRLE.out; have := HLC.out; unfold padN at hlt; unfold maxLen; omega
      case c6 => have := HRLE.out; have := HLC.out; unfold padN at hlt; omega
      intro ao' cap' w5 hown hgrow hat hnn
      have HO5 : Hid (w5.ownsRow 0 5 1 (.slice ao' (cur.length + 1) cap') (cur.length + 1) ((cur ++ [0]).map (Value.int .u8))) := Lib.hid (by simpa using hown)
      have HB5 : Hid (Below w2.heap.size w2 w5) := Lib.hid ((HB.out.alloc (by have := HB.out.size; omega) _).grown hgrow (by have := HB.out.size; simp; omega) (fun k hk => HF.out k hk))
      have HF5 : Hid (∀ g, (Value.slice ao' (cur.length + 1) cap').ownBlock = some g → w2.heap.size ≤ g) := Lib.hid (fun g hg => by
        rcases hat g hg with h | h
        · exact HF.out g h
        · have := HB.out.size; omega)
      have HC5 : Hid (cur ++ [0] = R ++ ([128] ++ List.replicate (j + 1) 0)) := Lib.hid (by rw [HC.out, List.replicate_succ']; simp)
      clear hown hgrow hat hnn hne
      go_wp2
      go_roundw
      case rel => first | exact ⟨j + 1, cur ++ [0], ao', cap', by omega, HC5.out, by simp, by simpa using HO5.out, HB5.out, by simpa using HF5.out⟩ | ((repeat apply Exists.intro); refine ⟨?_, rfl⟩; exact ⟨j + 1, cur ++ [0], ao', cap', by omega, HC5.out, by simp, by simpa using HO5.out, HB5.out, by simpa using HF5.out⟩)
      case measure => have := HLC.out; have := HRLE.out; unfold padN at hlt; simp [sliceLen]; try omega
    · obtain rfl : j = padN all.length := by have := HJ.out; omega
      have hne : ((cur.length : Int) % 64 != 56) = false := by
        have h1 := HLC.out
        have h2 := HRL.out
        unfold padN at h1
        rw [bne_eq_false_iff_eq]; omega
      obtain ⟨N, HN⟩ : ∃ N : Nat, Hid (cur.length + 8 = 64 * N ∧ 0 < N ∧ N ≤ 2) := ⟨(cur.length + 8) / 64, Lib.hid (by
        have h1 := HLC.out
        have h2 := HRL.out
        unfold padN at h1
        omega)⟩
      have HBR := Lib.hid (HB2.out.same (HB.out.block p HB2.out.lt))
      obtain ⟨_, _, q10, _, _⟩ := HBR.out.cells
      have kb : wr.cell? ⟨w.heap.size, 0, none⟩ = some (.pointer (some ⟨p, 0, none⟩)) := by
        have := HB.out.block w.heap.size (by have := HS2.out; omega)
        have hx := blk_cell (this.trans HX2.out) 0
        simpa using hx
      have HLY := Lib.hid (lays_any a1 cur cur.length c1 (8 * (all.length : Int) % 18446744073709551616) 8 wr rfl (by omega) (by omega) (by omega) HO.out (by have := HN.out; omega))
      have ew : IntKind.u64.wrap (8 * (all.length : Int)) = 8 * (all.length : Int) % 18446744073709551616 := by rw [IntKind.wrap_u64]
      have HPF : Hid (cur ++ bytesBE (8 * (all.length : Int) % 18446744073709551616) 8 = padF all) := Lib.hid (by rw [HPD.out, HC.out]; simp)
      rw [HPF.out] at HLY
      generalize padF all = PD at *
      have HPB : Hid (InB PD) := Lib.hid (by rw [← HPF.out, HC.out]; exact inB_app (inB_app HRB.out (inB_app (fun z hz => by simp at hz; omega) (fun z hz => by rw [List.mem_replicate] at hz; omega))) (bytesBE_inB _ _))
      have HPN : Hid (PD.length = 64 * N) := Lib.hid (by rw [← HPF.out, List.length_append, bytesBE_len]; exact HN.out.1)
      clear hne hlt
      have hne : ((cur.length : Int) % 64 != 56) = false := by
        have h1 := HN.out
        rw [bne_eq_false_iff_eq]; omega
      go_wp2_with fail
      refine HLY.out.mono ?_
      rintro e w6 ⟨ao6, cap6, rfl, hown6, hk6, hf6⟩
      obtain ⟨g, rfl⟩ : ∃ g, ao6 = some ⟨g, 0, none⟩ := by
        rcases hown6.2 with ⟨hv, hn⟩ | ⟨g, cap', cur', hv, _⟩
        · have := HPN.out; have := HN.out; omega
        · simp only [Value.slice.injEq] at hv; exact ⟨g, hv.1⟩
      obtain ⟨_, hra6, hc6, hm6⟩ := owns_at hown6
      have HRA6 := Lib.hid hra6
      have HG6 : Hid (w2.heap.size ≤ g ∧ g < w6.heap.size) := Lib.hid ⟨by
        rcases hf6 g rfl with h | h
        · exact HF.out g h
        · have := HB.out.size; omega, (hown6.lt g rfl).2⟩
      have HC6 := Lib.hid (And.intro hc6 hm6)
      have HB6 : Hid (Below w2.heap.size w2 w6) := Lib.hid (HB.out.trans (hk6.below HB.out.size (fun k hk => HF.out k hk)))
      have HCH := Lib.hid (fun wx => chunk_any (some ⟨g, 0, none⟩) PD.length cap6 wx)
      clear hown6 hk6 hf6 hra6 hc6 hm6 q10 kb ew
      go_wp2_with fail
      refine (HCH.out w6).mono ?_
      rintro e w7 ⟨rfl, hw7⟩
      have HW7 := Lib.hid hw7
      have hs7 : w7.heap.size = w6.heap.size + 2 := by rw [hw7]; simp
      have hb67 : Below w6.heap.size w6 w7 := by rw [hw7]; exact ((Below.refl _ _).alloc (Nat.le_refl _) _).alloc (by simp) _
      have HB7 : Hid (Below w2.heap.size w2 w7) := Lib.hid (HB6.out.trans (hb67.mono HB6.out.size))
      have k1 : w7.cell? ⟨w6.heap.size, 0, none⟩ = some (.slice (some ⟨g, 0, none⟩) PD.length cap6) := by
        have h1 := heap_alloc_new w6 (.cells #[.slice (some ⟨g, 0, none⟩) PD.length cap6] 62)
        have h2 : w7.heap[w6.heap.size]? = some (.cells #[.slice (some ⟨g, 0, none⟩) PD.length cap6] 62 (0, 0)) := by rw [hw7]; exact (Below.heap_alloc _ _ _ (by simp)).trans h1
        have := blk_cell h2 0
        simpa using this
      have k2 : w7.cell? ⟨w6.heap.size + 1, 0, none⟩ = some (.int .i64 64) := by
        have h1 := heap_alloc_new (w6.alloc (.cells #[.slice (some ⟨g, 0, none⟩) PD.length cap6] 62)) (.cells #[.int .i64 64] 3)
        rw [← hw7, World.size_alloc] at h1
        have := blk_cell h1 0
        simpa using this
      have HS7 := Lib.hid hs7
      have hsz2 := HS2.out
      have hsz6 := HB6.out.size
      have HT2 : Hid (TabOk w2 tb) := Lib.hid (HTB.out.below HBB.out)
      have htl : tb < w.heap.size := HTB.out.lt
      have hpl : p < w.heap.size := HHL.out
      have HT7 : Hid (TabOk w7 tb) := Lib.hid (HT2.out.same (HB7.out.block tb (by omega)))
      have HHB7 := Lib.hid (HB2.out.same (HB7.out.block p (by omega)))
      have HX7 := Lib.hid ((HB7.out.block w.heap.size (by omega)).trans HX2.out)
      have HV7 := Lib.hid ((HB7.out.block (w.heap.size + 1) (by omega)).trans HV2.out)
      have HA7 : Hid (ArrF w7 (w.heap.size + 1) 99 8 0 (fun j => (stH all).getD j 0) #[.int .u32 h0, .int .u32 h1, .int .u32 h2, .int .u32 h3, .int .u32 h4, .int .u32 h5, .int .u32 h6, .int .u32 h7]) := Lib.hid (by
        refine ArrF.of HV7.out (by simp) (fun j hj => ?_)
        rw [HHS.out]
        match j, hj with
        | 0, _ => rfl
        | 1, _ => rfl
        | 2, _ => rfl
        | 3, _ => rfl
        | 4, _ => rfl
        | 5, _ => rfl
        | 6, _ => rfl
        | 7, _ => rfl)
      obtain ⟨c0, hc0⟩ : ∃ c0 : Array Value, c0 = #[.int .u32 h0, .int .u32 h1, .int .u32 h2, .int .u32 h3, .int .u32 h4, .int .u32 h5, .int .u32 h6, .int .u32 h7] := ⟨_, rfl⟩
      rw [← hc0] at HA7
      clear hc0
      have HST := Lib.hid (chunk_stops 8 (by omega) w6.heap.size (w6.heap.size + 1) g 0 cap6 PD.length N HPN.out HC6.out.1 (by have := HPN.out; have := HN.out; omega) w7 (by omega) (by omega) k1 k2)
      clear hw7 hb67 k1 k2
      go_wp2_with fail
      refine (wpIn_wide (n := 9)).1 ?_
      refine wpIn_rangeFunc_ownF (F := Fence.wide) rfl (by omega) (gf := 138) (lb := #[.pointer (some ⟨w6.heap.size, 0, none⟩), .pointer (some ⟨w6.heap.size + 1, 0, none⟩)]) rfl trivial (enters_of Tryz.func138 (by kernel_rfl) rfl)
        HST.out KpB.trans (fun W l o o' hl _ _ _ => ⟨World.putObj_heap_other (by omega), World.putObj_heap_other (by omega)⟩) (Below.refl _ _) (fun _ => rfl)
        (fun pre W => Keeps (fun i => i = tb ∨ i = w.heap.size + 1) w7 W ∧ TabOk W tb ∧ ArrF W (w.heap.size + 1) 99 8 0 (fun j => (pre.foldl (blkF PD) (stH all)).getD j 0) c0)
        (fun _ _ _ => False)
        (fun s A B row hs hg hr => ⟨hs.1.grown hg (fun k e => Or.inr (hr k e).1), hs.2.1.own hg (fun r e => (hr r e).1) (by omega), hs.2.2.same (hg.block _ hs.2.2.lt (fun e => by have := (hr _ e.symm).1; omega))⟩)
        (fun _ _ _ _ _ hs _ _ => hs)
        ⟨Keeps.refl _ _, HT7.out, HA7.out⟩
        ?a1 ?assign ?body ?done ?stop
      case assign =>
        intro l x W K hK
        gi_wp2
        exact hK
      case body =>
        rintro l pre x W ⟨hk, ht, ha⟩ _
        have hx : x.val < N := x.isLt
        have kb : W.cell? ⟨w.heap.size, 0, none⟩ = some (.pointer (some ⟨p, 0, none⟩)) := by
          have h1 := (hk.block w.heap.size (by omega) (by omega)).trans HX7.out
          have := blk_cell h1 0
          simpa using this
        have kp : W.cell? ⟨p, 0, none⟩ = some (.pointer (some ⟨tb, 0, none⟩)) := (HHB7.out.same (hk.block p (by omega) (by have := HPT.out; omega))).cells.1
        have hgl := HG6.out
        have hrw : IntsAt .u8 W (some ⟨g, 0, none⟩) PD := by
          refine HRA6.out.same (fun a ha hl => ?_)
          cases ha
          rw [hk.block g (by omega) (by omega), HW7.out]
          exact (Below.heap_alloc _ _ _ (by simp; omega)).trans (Below.heap_alloc _ _ _ (by omega))
        have HMX := Lib.hid (mix_any tb (w.heap.size + 1) 0 99 (some ⟨g, 64 * x.val, none⟩) ((PD.drop (64 * x.val)).take 64) 64 (pre.foldl (blkF PD) (stH all)) W ht (blk_len PD _ (stH_len all) pre) (by omega) c0 ha (blk_in PD _ (stH_in all) pre) (by have := HPN.out; simp; omega) (by have := hrw.drop (64 * x.val); rw [Nat.zero_add] at this; exact this.take 64) (inB_take (inB_drop HPB.out _) _) (Nat.le_refl _))
        have HK := Lib.hid hk
        have HT := Lib.hid ht
        have HA := Lib.hid ha
        clear hk ht ha hrw
        unfold chunkV
        gi_wp2_with (refine ⟨trivial, ?_⟩; gi_at_call 129; refine (CallsIn.inRound l (callsIn_wide.2 HMX.out)).mono ?_; rintro e W3 ⟨rfl, ht3, ha3, hk3⟩)
        refine ⟨⟨hk3.size, fun k o hko hoc => (hk3.block k (blk_lt hko) (fun h => ?_)).trans hko⟩, ⟨hk3.block _ (by have := HK.out.size; omega) (by omega), hk3.block _ (by have := HK.out.size; omega) (by omega)⟩, HK.out.trans hk3 (fun i h => Or.inl h), ht3, ?_⟩
        · rcases h with h | h
          · subst h; rw [HT.out.isCells hko] at hoc; cases hoc
          · subst h; rw [HA.out.isCells hko] at hoc; cases hoc
        · rw [List.foldl_append]; exact ha3
      case done =>
        rintro D ys W hD rfl ⟨hk, ht, ha⟩ hK
        have HK := Lib.hid hk
        have HT := Lib.hid ht
        have HKD := Lib.hid hK
        have HFS : Hid ((List.finRange N).foldl (blkF PD) (stH all) = (absF (stH all) PD).1) := Lib.hid (by
          have h1 := fold_abs (stH all) PD N N (Nat.le_refl _)
          rw [List.take_of_length_le (by simp)] at h1
          refine h1.trans ?_
          unfold absF
          rw [HPN.out, show 64 * N / 64 = N by omega])
        rw [HFS.out] at ha
        obtain ⟨HS, hHS⟩ : ∃ HS, HS = (absF (stH all) PD).1 := ⟨_, rfl⟩
        have H8 : Hid (HS.length = 8) := Lib.hid (by rw [hHS]; exact absN_len _ _ _ (stH_len all))
        have H8I : Hid (∀ j, InU (HS.getD j 0)) := Lib.hid (by rw [hHS]; exact absN_in _ _ _ (stH_in all))
        have HSF2 : Hid (shaF all = outF HS) := Lib.hid (by rw [HSF.out, hHS])
        rw [← hHS] at ha
        have HA := Lib.hid ha
        clear hk ht ha hK hHS HFS
        gi_wp2
        obtain ⟨s0, s1, s2, s3, s4, s5, s6, s7, rfl⟩ : ∃ s0 s1 s2 s3 s4 s5 s6 s7, HS = [s0, s1, s2, s3, s4, s5, s6, s7] := by
          have := H8.out
          match HS, this with
          | [s0, s1, s2, s3, s4, s5, s6, s7], _ => exact ⟨s0, s1, s2, s3, s4, s5, s6, s7, rfl⟩
        have g0 := (HA.out.cell 0 (by omega)).1
        have g1 := (HA.out.cell 1 (by omega)).1
        have g2 := (HA.out.cell 2 (by omega)).1
        have g3 := (HA.out.cell 3 (by omega)).1
        have g4 := (HA.out.cell 4 (by omega)).1
        have g5 := (HA.out.cell 5 (by omega)).1
        have g6 := (HA.out.cell 6 (by omega)).1
        have g7 := (HA.out.cell 7 (by omega)).1
        simp only [List.getD_cons_zero, List.getD_cons_succ, Nat.zero_add] at g0 g1 g2 g3 g4 g5 g6 g7
        have HIX : Hid (∀ (k : Nat), k < 8 → ∀ wx, (Instr.index 99 (.agg #[.int .u32 s0, .int .u32 s1, .int .u32 s2, .int .u32 s3, .int .u32 s4, .int .u32 s5, .int .u32 s6, .int .u32 s7]) (.int .i64 (k : Int))).run Tryz.prog wx = .ok (.int .u32 ([s0, s1, s2, s3, s4, s5, s6, s7].getD k 0)) wx) := Lib.hid (by
          exact fun k hk wx => agg8_index s0 s1 s2 s3 s4 s5 s6 s7 k hk wx)
        generalize hHS : [s0, s1, s2, s3, s4, s5, s6, s7] = HS at *
        clear hHS
        go_wp2_with fail
        go_loopw [6, 44] (fun v i wq => ∃ (k : Nat) (a2 : Option Addr) (c2 : Nat), k ≤ 8 ∧ i = .int .i64 k ∧ v = .slice a2 (4 * k) c2 ∧ wq.ownsRow 0 5 1 (.slice a2 (4 * k) c2) (4 * k) ((outF (HS.take k)).map (Value.int .u8)) ∧ Below W.heap.size W wq ∧ (∀ g, (Value.slice a2 (4 * k) c2).ownBlock = some g → W.heap.size ≤ g)) (fun _ i _ => 8 - (intOf i).toNat)
        case atStart => exact ⟨0, none, 0, Nat.zero_le _, rfl, rfl, World.ownsRow_nil _ _ _ _, Below.refl _ _, fun g hg => by cases hg⟩
        case round =>
          obtain ⟨k, a2, c2, hk, rfl, rfl, ho, hb, hf⟩ := hrel
          have HO9 := Lib.hid ho
          have HB9 := Lib.hid hb
          have HF9 := Lib.hid hf
          clear ho hb hf
          by_cases hlt : k < 8
          · have j1 : (k : Int) < 8 := by omega
            have hix := HIX.out k hlt
            have HZ := Lib.hid (H8I.out k)
            have HZ8 : Hid (outF (HS.take k) ++ bytesBE (HS.getD k 0) 4 = outF (HS.take (k + 1))) := Lib.hid (by
              have hl : k < HS.length := by rw [H8.out]; exact hlt
              unfold outF
              rw [List.take_succ_eq_append_getElem hl, List.flatMap_append]
              congr 1
              simp [List.getD, List.getElem?_eq_getElem hl])
            have HLY := Lib.hid (lays_any a2 (outF (HS.take k)) (4 * k) c2 (HS.getD k 0) 4 wr (by rw [outF_len, List.length_take, H8.out]; omega) HZ.out.1 (by have := HZ.out.2; omega) (by omega) HO9.out (by omega))
            rw [HZ8.out] at HLY
            have HOL : Hid ((outF (HS.take (k + 1))).length = 4 * (k + 1)) := Lib.hid (by rw [outF_len, List.length_take, H8.out]; omega)
            have ew : IntKind.u64.wrap (HS.getD k 0) = HS.getD k 0 := by have h1 := HZ.out.1; have h2 := HZ.out.2; rw [IntKind.wrap_u64]; omega
            generalize HS.getD k 0 = z at *
            go_wp2_with fail
            refine HLY.out.mono ?_
            rintro e w9 ⟨ao9, cap9, rfl, hown9, hk9, hf9⟩
            rw [HOL.out] at hown9 hf9 ⊢
            have HO10 := Lib.hid hown9
            have HB10 : Hid (Below W.heap.size W w9) := Lib.hid (HB9.out.trans (hk9.below HB9.out.size (fun i hi => HF9.out i hi)))
            have HF10 : Hid (∀ g, (Value.slice ao9 (4 * (k + 1)) cap9).ownBlock = some g → W.heap.size ≤ g) := Lib.hid (fun g hg => by
              rcases hf9 g hg with h | h
              · exact HF9.out g h
              · have := HB9.out.size; omega)
            clear hown9 hk9 hf9
            go_wp2_with fail
            go_roundw
            case rel => first | exact ⟨k + 1, ao9, cap9, by omega, by go_num, rfl, HO10.out, HB10.out, HF10.out⟩ | ((repeat apply Exists.intro); refine ⟨?_, rfl⟩; exact ⟨k + 1, ao9, cap9, by omega, by go_num, rfl, HO10.out, HB10.out, HF10.out⟩)
            case measure => simp [intOf]; omega
          · obtain rfl : k = 8 := by omega
            have HOE : Hid (wr.ownsRow 0 5 1 (.slice a2 32 c2) 32 ((shaF all).map (Value.int .u8))) := Lib.hid (by
              have h1 := HO9.out
              rw [List.take_of_length_le (by rw [H8.out]; exact Nat.le_refl _), ← HSF2.out] at h1
              exact h1)
            obtain ⟨g2, rfl⟩ : ∃ g2, a2 = some ⟨g2, 0, none⟩ := by
              rcases HOE.out.2 with ⟨hv, hn⟩ | ⟨g, cap', cur', hv, _⟩
              · omega
              · simp only [Value.slice.injEq] at hv; exact ⟨g, hv.1⟩
            have HKD2 := Lib.hid ((HB9.out.block D (blk_lt HKD.out)).trans HKD.out)
            have HDL := Lib.hid hD
            have HKF : Hid (Keeps (fun i => i = tb) w wr) := Lib.hid ((((Keeps.of_below (S := fun i => i = tb) HBB.out).trans (Keeps.of_below (S := fun _ => False) HB7.out) (fun _ h => h.elim)).trans HK.out (fun i h => h.imp id (fun e => by omega))).trans (Keeps.of_below (S := fun _ => False) HB9.out) (fun _ h => h.elim))
            have HT9 := Lib.hid (HT.out.below HB9.out)
            have HGE : Hid (w.heap.size ≤ g2) := Lib.hid (by have := HF9.out g2 rfl; have := HK.out.size; omega)
            go_wp2_with fail
            refine ⟨by simp, .inl ⟨_, _, rfl, run_takeDeferred HKD2.out, ?_⟩⟩
            have hDl : w.heap.size ≤ D := by have := HDL.out; omega
            refine ⟨_, results_tmp rfl _ _ _, g2, c2, rfl, HT9.out.same (World.putObj_heap_other (by omega)), ownsRow_putObj HOE.out _ HKD2.out rfl, by simp [shaF_len], HKF.out.grown (grownBy_putObj' _ _ _) (fun k e => by cases e; exact Or.inr hDl), HGE.out⟩
      case stop =>
        rintro D c pre W _ _ h _
        exact h.elim

end Go.Proofs.YtkaciaehlibidaaGreat
