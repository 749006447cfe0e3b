/- Package escrow: the pure book; where it lies. -/
import Derived.Test.YtbhoakohpfdeoaaGreatPur1
import Derived.Test.YtbhoakohpfdeoaaGreatTy
import Derived.Test.YtbhoakohpfdeoaaGreatStr
import Derived.Test.YtbhoakohpfdeoaaGreatShaQ
namespace Go.Proofs.YtbhoakohpfdeoaaGreat
open Go.RowKit
set_option linter.unusedVariables false
set_option linter.unusedSimpArgs false

/-- An escrow. -/
structure XR where
  f : Int
  t : Int
  a : Int
  n : Int
  d : Int
  s : Int
  h : ByteArray
  x : ByteArray
instance : Inhabited XR := ⟨⟨0, 0, 0, 0, 0, 0, ⟨#[]⟩, ⟨#[]⟩⟩⟩
def XR.cells (x : XR) : Array Value := #[.int .i64 x.f, .int .i64 x.t, .int .i64 x.a, .int .i64 x.n, .int .i64 x.d, .int .i64 x.s, .string x.h, .string x.x]
def XR.list (x : XR) : List Value := x.cells.toList
/-- An escrow, closed. -/
def XR.close (x : XR) (st : Int) (sec : ByteArray) : XR := ⟨x.f, x.t, x.a, x.n, x.d, st, x.h, sec⟩
def noX : XR := ⟨0, 0, 0, 0, 0, 0, ⟨#[]⟩, ⟨#[]⟩⟩
/-- The hash of a text, as a text. -/
def shaS (s : ByteArray) : ByteArray := strOfNums (shaF (strNums s))
section
variable (n m : Nat) (b : Nat → Nat → Int) (l : List XR)
def mayL (fr tt a amt d ck : Int) : Bool := decide (0 ≤ fr ∧ fr < n) && (decide (0 ≤ tt ∧ tt < n) && (decide (0 ≤ a ∧ a < m) && (amtB amt && (!(amt == 0) && (tickB d && tickB ck)))))
def lockE (fr tt a amt : Int) (h : ByteArray) (d ck : Int) : Int :=
  if mayL n m fr tt a amt d ck = true then (if h.size = 32 then (if fr = tt then 14 else if d ≤ ck then 11 else takeE n m b fr a amt) else 2) else 1
def lockB (fr tt a amt : Int) (h : ByteArray) (d ck : Int) : Nat → Nat → Int := if lockE n m b fr tt a amt h d ck = 0 then takeN n m b fr a amt else b
def lockL (fr tt a amt : Int) (h : ByteArray) (d ck : Int) : List XR := if lockE n m b fr tt a amt h d ck = 0 then l ++ [⟨fr, tt, a, amt, d, 0, h, ⟨#[]⟩⟩] else l
def lockI (fr tt a amt : Int) (h : ByteArray) (d ck : Int) : Int := if lockE n m b fr tt a amt h d ck = 0 then l.length else 0
def idB (id : Int) : Bool := decide (0 ≤ id ∧ id < l.length)
def atX (id : Int) : XR := l.getD id.toNat default
def claimE (who id : Int) (sec : ByteArray) (ck : Int) : Int :=
  if idB l id = true then (if who = (atX l id).t then (if (atX l id).s = 0 then (if tickB ck = true ∧ ck < (atX l id).d then (if sec.size = 32 then (if shaS sec = (atX l id).h then giveE n m b (atX l id).t (atX l id).a (atX l id).n else 10) else 2) else 11) else 9) else 14) else 8
def claimB (who id : Int) (sec : ByteArray) (ck : Int) : Nat → Nat → Int := if claimE n m b l who id sec ck = 0 then giveN n m b (atX l id).t (atX l id).a (atX l id).n else b
def claimL (who id : Int) (sec : ByteArray) (ck : Int) : List XR := if claimE n m b l who id sec ck = 0 then l.set id.toNat ((atX l id).close 1 sec) else l
def refundE (who id ck : Int) : Int :=
  if idB l id = true then (if who = (atX l id).f then (if (atX l id).s = 0 then (if tickB ck = true ∧ (atX l id).d ≤ ck then giveE n m b (atX l id).f (atX l id).a (atX l id).n else 11) else 9) else 14) else 8
def refundB (who id ck : Int) : Nat → Nat → Int := if refundE n m b l who id ck = 0 then giveN n m b (atX l id).f (atX l id).a (atX l id).n else b
def refundL (who id ck : Int) : List XR := if refundE n m b l who id ck = 0 then l.set id.toNat ((atX l id).close 2 ⟨#[]⟩) else l
end
def openX (l : List XR) : Nat := (l.filter (fun x => x.s == 0)).length
def lockedX (l : List XR) (j : Int) : Int := ((l.filter (fun x => x.s == 0 && x.a == j)).map XR.n).sum

/-- A book: its box B, its escrows' row v, its purse q. -/
structure BK (w : World) (Sp : Nat → Prop) (B tb q n m : Nat) (b : Nat → Nat → Int) (l : List XR) (v : Value) : Prop where
  box : w.heap[B]? = some (.cells #[.pointer (some ⟨tb, 0, none⟩), .pointer (some ⟨q, 0, none⟩), v] 66 (0, 0))
  row : w.ownsRow 0 47 8 v l.length (l.flatMap XR.list)
  pu : PAt 75 w q Sp n m b
  nB : ¬ Sp B
  nv : ∀ g, v.ownBlock = some g → ¬ Sp g
/-- The blocks of a book. -/
def fpK (Sp : Nat → Prop) (B : Nat) (v : Value) (k : Nat) : Prop := k = B ∨ v.ownBlock = some k ∨ Sp k
/-- What an operation leaves, the table aside. -/
def BPost (w : World) (Sp : Nat → Prop) (B tb q n m : Nat) (v : Value) (b : Nat → Nat → Int) (l : List XR) (w' : World) : Prop :=
  ∃ v', BK w' Sp B tb q n m b l v' ∧ Keeps (fpK Sp B v) w w' ∧ ∀ g, v'.ownBlock = some g → v.ownBlock = some g ∨ w.heap.size ≤ g
section
variable {w w' : World} {Sp : Nat → Prop} {B tb q n m : Nat} {b b' : Nat → Nat → Int} {l l' : List XR} {v : Value}
/-- What an operation leaves, the table with it. -/
def TPost (w : World) (Sp : Nat → Prop) (B tb q n m : Nat) (v : Value) (b : Nat → Nat → Int) (l : List XR) (w' : World) : Prop :=
  TabOk w' tb ∧ ∃ v', BK w' Sp B tb q n m b l v' ∧ Keeps (fun i => fpK Sp B v i ∨ i = tb) w w' ∧ ∀ g, v'.ownBlock = some g → v.ownBlock = some g ∨ w.heap.size ≤ g
theorem strEq (a b : ByteArray) : (a.toList == b.toList) = decide (a = b) := by
  rw [ByteArray.toList_eq, ByteArray.toList_eq, Bool.eq_iff_iff, beq_iff_eq, decide_eq_true_eq]
  constructor
  · intro h
    cases a; cases b
    simp only at h
    congr 1
    exact Array.toList_inj.1 h
  · intro h; rw [h]
theorem BK.vB (h : BK w Sp B tb q n m b l v) : ∀ g, v.ownBlock = some g → g ≠ B := fun g hg => by
  obtain ⟨cur, h1⟩ := row_ty h.row hg
  exact TyAt.ne ⟨_, _, h.box⟩ h1 (by decide)
theorem BK.lt (h : BK w Sp B tb q n m b l v) : ∀ k, fpK Sp B v k → k < w.heap.size := by
  rintro k (rfl | hk | hk)
  · exact blk_lt h.box
  · exact (h.row.lt k hk).2
  · obtain ⟨_, _, _, _, _, _, h3⟩ := h.pu; exact h3 k hk
theorem BK.keep {S : Nat → Prop} (h : BK w Sp B tb q n m b l v) (hk : Keeps S w w') (hs : ∀ k, fpK Sp B v k → ¬ S k) : BK w' Sp B tb q n m b l v :=
  ⟨(hk.block B (blk_lt h.box) (hs B (Or.inl rfl))).trans h.box, ownsRow_same h.row (fun g hg => hk.block g (h.row.lt g hg).2 (hs g (Or.inr (Or.inl hg)))), h.pu.keep hk (fun k hk => hs k (Or.inr (Or.inr hk))), h.nB, h.nv⟩
theorem BK.below (h : BK w Sp B tb q n m b l v) (hb : Below w.heap.size w w') : BK w' Sp B tb q n m b l v := h.keep (Keeps.of_below (S := fun _ => False) hb) (fun _ _ f => f)
theorem BK.cells (h : BK w Sp B tb q n m b l v) : w.cell? ⟨B, 0, none⟩ = some (.pointer (some ⟨tb, 0, none⟩)) ∧ w.cell? ⟨B, 1, none⟩ = some (.pointer (some ⟨q, 0, none⟩)) ∧ w.cell? ⟨B, 2, none⟩ = some v ∧ w.frozen? ⟨B, 2, none⟩ = false := ⟨blk_cell h.box 0, blk_cell h.box 1, blk_cell h.box 2, blk_frozen h.box 2⟩
theorem BK.shape (h : BK w Sp B tb q n m b l v) : ∃ ao c, v = .slice ao l.length c ∧ l.length ≤ c ∧ c ≤ maxLen := own_shape h.row
theorem BPost.refl (h : BK w Sp B tb q n m b l v) (hb : Below w.heap.size w w') : BPost w Sp B tb q n m v b l w' := ⟨v, h.below hb, Keeps.of_below hb, fun g hg => Or.inl hg⟩
/-- An escrow's cells. -/
theorem BK.esc {ao : Option Addr} {c : Nat} (h : BK w Sp B tb q n m b l (.slice ao l.length c)) (i : Nat) (hi : i < l.length) : ∃ g, ao = some ⟨g, 0, none⟩ ∧ (∀ j, j < 8 → w.cell? ⟨g, i * 8 + j, none⟩ = l[i].cells[j]?) ∧ ∀ j, w.frozen? ⟨g, j, none⟩ = false := by
  obtain ⟨g, rfl, hc⟩ := own_cell h.row (by omega)
  obtain ⟨cur, h1⟩ := row_ty h.row rfl
  refine ⟨g, rfl, fun j hj => ?_, fun j => blk_frozen h1 j⟩
  have hf := flat_get XR.list 8 (fun _ => rfl) l i hi j hj
  have hx : (l[i].list)[j]? = l[i].cells[j]? := Array.getElem?_toList
  rw [hx] at hf
  obtain ⟨u, hu⟩ : ∃ u, l[i].cells[j]? = some u := ⟨_, Array.getElem?_eq_getElem (show j < l[i].cells.size from hj)⟩
  rw [hu] at hf ⊢
  exact hc _ u hf
end

end Go.Proofs.YtbhoakohpfdeoaaGreat
