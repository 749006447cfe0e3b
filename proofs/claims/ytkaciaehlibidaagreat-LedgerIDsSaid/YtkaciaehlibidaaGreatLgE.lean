/- Package escrow: the pure book; where it lies. Package escrow: New, has, there, Len, Purse, Get. Package escrow: Open, Total. -/
import Derived.Test.YtkaciaehlibidaaGreatLgA
import Derived.Test.YtkaciaehlibidaaGreatLgD
namespace Go.Proofs.YtkaciaehlibidaaGreat
open Go.RowKit
set_option linter.unusedVariables false
set_option linter.unusedSimpArgs false

/-- An escrow. -/
structure XR where
  f : Int
  t : Int
  a : Int
  n : Int
  d : Int
  s : Int
  h : ByteArray
  x : ByteArray
instance : Inhabited XR := ⟨⟨0, 0, 0, 0, 0, 0, ⟨#[]⟩, ⟨#[]⟩⟩⟩
def XR.cells (x : XR) : Array Value := #[.int .i64 x.f, .int .i64 x.t, .int .i64 x.a, .int .i64 x.n, .int .i64 x.d, .int .i64 x.s, .string x.h, .string x.x]
def XR.list (x : XR) : List Value := x.cells.toList
/-- An escrow, closed. -/
def XR.close (x : XR) (st : Int) (sec : ByteArray) : XR := ⟨x.f, x.t, x.a, x.n, x.d, st, x.h, sec⟩
def noX : XR := ⟨0, 0, 0, 0, 0, 0, ⟨#[]⟩, ⟨#[]⟩⟩
/-- The hash of a text, as a text. -/
def shaS (s : ByteArray) : ByteArray := strOfNums (shaF (strNums s))
section
variable (n m : Nat) (b : Nat → Nat → Int) (l : List XR)
def mayL (fr tt a amt d ck : Int) : Bool := decide (0 ≤ fr ∧ fr < n) && (decide (0 ≤ tt ∧ tt < n) && (decide (0 ≤ a ∧ a < m) && (amtB amt && (!(amt == 0) && (tickB d && tickB ck)))))
def lockE (fr tt a amt : Int) (h : ByteArray) (d ck : Int) : Int :=
  if mayL n m fr tt a amt d ck = true then (if h.size = 32 then (if fr = tt then 14 else if d ≤ ck then 11 else takeE n m b fr a amt) else 2) else 1
def lockB (fr tt a amt : Int) (h : ByteArray) (d ck : Int) : Nat → Nat → Int := if lockE n m b fr tt a amt h d ck = 0 then takeN n m b fr a amt else b
def lockL (fr tt a amt : Int) (h : ByteArray) (d ck : Int) : List XR := if lockE n m b fr tt a amt h d ck = 0 then l ++ [⟨fr, tt, a, amt, d, 0, h, ⟨#[]⟩⟩] else l
def lockI (fr tt a amt : Int) (h : ByteArray) (d ck : Int) : Int := if lockE n m b fr tt a amt h d ck = 0 then l.length else 0
def idB (id : Int) : Bool := decide (0 ≤ id ∧ id < l.length)
def atX (id : Int) : XR := l.getD id.toNat default
def claimE (who id : Int) (sec : ByteArray) (ck : Int) : Int :=
  if idB l id = true then (if who = (atX l id).t then (if (atX l id).s = 0 then (if tickB ck = true ∧ ck < (atX l id).d then (if sec.size = 32 then (if shaS sec = (atX l id).h then giveE n m b (atX l id).t (atX l id).a (atX l id).n else 10) else 2) else 11) else 9) else 14) else 8
def claimB (who id : Int) (sec : ByteArray) (ck : Int) : Nat → Nat → Int := if claimE n m b l who id sec ck = 0 then giveN n m b (atX l id).t (atX l id).a (atX l id).n else b
def claimL (who id : Int) (sec : ByteArray) (ck : Int) : List XR := if claimE n m b l who id sec ck = 0 then l.set id.toNat ((atX l id).close 1 sec) else l
def refundE (who id ck : Int) : Int :=
  if idB l id = true then (if who = (atX l id).f then (if (atX l id).s = 0 then (if tickB ck = true ∧ (atX l id).d ≤ ck then giveE n m b (atX l id).f (atX l id).a (atX l id).n else 11) else 9) else 14) else 8
def refundB (who id ck : Int) : Nat → Nat → Int := if refundE n m b l who id ck = 0 then giveN n m b (atX l id).f (atX l id).a (atX l id).n else b
def refundL (who id ck : Int) : List XR := if refundE n m b l who id ck = 0 then l.set id.toNat ((atX l id).close 2 ⟨#[]⟩) else l
end
def openX (l : List XR) : Nat := (l.filter (fun x => x.s == 0)).length
def lockedX (l : List XR) (j : Int) : Int := ((l.filter (fun x => x.s == 0 && x.a == j)).map XR.n).sum

/-- A book: its box B, its escrows' row v, its purse q. -/
structure BK (w : World) (Sp : Nat → Prop) (B tb q n m : Nat) (b : Nat → Nat → Int) (l : List XR) (v : Value) : Prop where
  box : w.heap[B]? = some (.cells #[.pointer (some ⟨tb, 0, none⟩), .pointer (some ⟨q, 0, none⟩), v] 136 (0, 0))
  row : w.ownsRow 0 57 8 v l.length (l.flatMap XR.list)
  pu : PAt 133 w q Sp n m b
  nB : ¬ Sp B
  nv : ∀ g, v.ownBlock = some g → ¬ Sp g
/-- The blocks of a book. -/
def fpK (Sp : Nat → Prop) (B : Nat) (v : Value) (k : Nat) : Prop := k = B ∨ v.ownBlock = some k ∨ Sp k
/-- What an operation leaves, the table aside. -/
def BPost (w : World) (Sp : Nat → Prop) (B tb q n m : Nat) (v : Value) (b : Nat → Nat → Int) (l : List XR) (w' : World) : Prop :=
  ∃ v', BK w' Sp B tb q n m b l v' ∧ Keeps (fpK Sp B v) w w' ∧ ∀ g, v'.ownBlock = some g → v.ownBlock = some g ∨ w.heap.size ≤ g
section
variable {w w' : World} {Sp : Nat → Prop} {B tb q n m : Nat} {b b' : Nat → Nat → Int} {l l' : List XR} {v : Value}
/-- What an operation leaves, the table with it. -/
def TPost (w : World) (Sp : Nat → Prop) (B tb q n m : Nat) (v : Value) (b : Nat → Nat → Int) (l : List XR) (w' : World) : Prop :=
  TabOk w' tb ∧ ∃ v', BK w' Sp B tb q n m b l v' ∧ Keeps (fun i => fpK Sp B v i ∨ i = tb) w w' ∧ ∀ g, v'.ownBlock = some g → v.ownBlock = some g ∨ w.heap.size ≤ g
theorem strEq (a b : ByteArray) : (a.toList == b.toList) = decide (a = b) := by
  rw [ByteArray.toList_eq, ByteArray.toList_eq, Bool.eq_iff_iff, beq_iff_eq, decide_eq_true_eq]
  constructor
  · intro h
    cases a; cases b
    simp only at h
    congr 1
    exact Array.toList_inj.1 h
  · intro h; rw [h]
theorem BK.vB (h : BK w Sp B tb q n m b l v) : ∀ g, v.ownBlock = some g → g ≠ B := fun g hg => by
  obtain ⟨cur, h1⟩ := row_ty h.row hg
  exact TyAt.ne ⟨_, _, h.box⟩ h1 (by decide)
theorem BK.lt (h : BK w Sp B tb q n m b l v) : ∀ k, fpK Sp B v k → k < w.heap.size := by
  rintro k (rfl | hk | hk)
  · exact blk_lt h.box
  · exact (h.row.lt k hk).2
  · obtain ⟨_, _, _, _, _, _, h3⟩ := h.pu; exact h3 k hk
theorem BK.keep {S : Nat → Prop} (h : BK w Sp B tb q n m b l v) (hk : Keeps S w w') (hs : ∀ k, fpK Sp B v k → ¬ S k) : BK w' Sp B tb q n m b l v :=
  ⟨(hk.block B (blk_lt h.box) (hs B (Or.inl rfl))).trans h.box, ownsRow_same h.row (fun g hg => hk.block g (h.row.lt g hg).2 (hs g (Or.inr (Or.inl hg)))), h.pu.keep hk (fun k hk => hs k (Or.inr (Or.inr hk))), h.nB, h.nv⟩
theorem BK.below (h : BK w Sp B tb q n m b l v) (hb : Below w.heap.size w w') : BK w' Sp B tb q n m b l v := h.keep (Keeps.of_below (S := fun _ => False) hb) (fun _ _ f => f)
theorem BK.cells (h : BK w Sp B tb q n m b l v) : w.cell? ⟨B, 0, none⟩ = some (.pointer (some ⟨tb, 0, none⟩)) ∧ w.cell? ⟨B, 1, none⟩ = some (.pointer (some ⟨q, 0, none⟩)) ∧ w.cell? ⟨B, 2, none⟩ = some v ∧ w.frozen? ⟨B, 2, none⟩ = false := ⟨blk_cell h.box 0, blk_cell h.box 1, blk_cell h.box 2, blk_frozen h.box 2⟩
theorem BK.shape (h : BK w Sp B tb q n m b l v) : ∃ ao c, v = .slice ao l.length c ∧ l.length ≤ c ∧ c ≤ maxLen := own_shape h.row
theorem BPost.refl (h : BK w Sp B tb q n m b l v) (hb : Below w.heap.size w w') : BPost w Sp B tb q n m v b l w' := ⟨v, h.below hb, Keeps.of_below hb, fun g hg => Or.inl hg⟩
/-- An escrow's cells. -/
theorem BK.esc {ao : Option Addr} {c : Nat} (h : BK w Sp B tb q n m b l (.slice ao l.length c)) (i : Nat) (hi : i < l.length) : ∃ g, ao = some ⟨g, 0, none⟩ ∧ (∀ j, j < 8 → w.cell? ⟨g, i * 8 + j, none⟩ = l[i].cells[j]?) ∧ ∀ j, w.frozen? ⟨g, j, none⟩ = false := by
  obtain ⟨g, rfl, hc⟩ := own_cell h.row (by omega)
  obtain ⟨cur, h1⟩ := row_ty h.row rfl
  refine ⟨g, rfl, fun j hj => ?_, fun j => blk_frozen h1 j⟩
  have hf := flat_get XR.list 8 (fun _ => rfl) l i hi j hj
  have hx : (l[i].list)[j]? = l[i].cells[j]? := Array.getElem?_toList
  rw [hx] at hf
  obtain ⟨u, hu⟩ : ∃ u, l[i].cells[j]? = some u := ⟨_, Array.getElem?_eq_getElem (show j < l[i].cells.size from hj)⟩
  rw [hu] at hf ⊢
  exact hc _ u hf
end

/-- All eight cells written. -/
def fillX (w : World) (b : Nat) (x : XR) : World := (((((((w.setCell ⟨b, 0, none⟩ (.int .i64 x.f)).setCell ⟨b, 1, none⟩ (.int .i64 x.t)).setCell ⟨b, 2, none⟩ (.int .i64 x.a)).setCell ⟨b, 3, none⟩ (.int .i64 x.n)).setCell ⟨b, 4, none⟩ (.int .i64 x.d)).setCell ⟨b, 5, none⟩ (.int .i64 x.s)).setCell ⟨b, 6, none⟩ (.string x.h)).setCell ⟨b, 7, none⟩ (.string x.x)
theorem fillX_heap {w : World} {b : Nat} {y : XR} {T : TypeId} (h : w.heap[b]? = some (.cells y.cells T (0, 0))) (x : XR) : (fillX w b x).heap[b]? = some (.cells x.cells T (0, 0)) := by
  unfold fillX XR.cells
  unfold XR.cells at h
  simpa using blk_set (blk_set (blk_set (blk_set (blk_set (blk_set (blk_set (blk_set h 0 (.int .i64 x.f)) 1 (.int .i64 x.t)) 2 (.int .i64 x.a)) 3 (.int .i64 x.n)) 4 (.int .i64 x.d)) 5 (.int .i64 x.s)) 6 (.string x.h)) 7 (.string x.x)
theorem fillX_keeps (w : World) (b : Nat) (x : XR) : Keeps (fun i => i = b) w (fillX w b x) :=
  ((((((((Keeps.refl (fun i => i = b) w).setCell (p := ⟨b, 0, none⟩) (Or.inl rfl) _).setCell (p := ⟨b, 1, none⟩) (Or.inl rfl) _).setCell (p := ⟨b, 2, none⟩) (Or.inl rfl) _).setCell (p := ⟨b, 3, none⟩) (Or.inl rfl) _).setCell (p := ⟨b, 4, none⟩) (Or.inl rfl) _).setCell (p := ⟨b, 5, none⟩) (Or.inl rfl) _).setCell (p := ⟨b, 6, none⟩) (Or.inl rfl) _).setCell (p := ⟨b, 7, none⟩) (Or.inl rfl) _
theorem X_cells {w : World} {b : Nat} {x : XR} {T : TypeId} (h : w.heap[b]? = some (.cells x.cells T (0, 0))) : w.cell? ⟨b, 0, none⟩ = some (.int .i64 x.f) ∧ w.cell? ⟨b, 1, none⟩ = some (.int .i64 x.t) ∧ w.cell? ⟨b, 2, none⟩ = some (.int .i64 x.a) ∧ w.cell? ⟨b, 3, none⟩ = some (.int .i64 x.n) ∧ w.cell? ⟨b, 4, none⟩ = some (.int .i64 x.d) ∧ w.cell? ⟨b, 5, none⟩ = some (.int .i64 x.s) ∧ w.cell? ⟨b, 6, none⟩ = some (.string x.h) ∧ w.cell? ⟨b, 7, none⟩ = some (.string x.x) :=
  ⟨blk_cell h 0, blk_cell h 1, blk_cell h 2, blk_cell h 3, blk_cell h 4, blk_cell h 5, blk_cell h 6, blk_cell h 7⟩

section
variable {w : World} {Sp : Nat → Prop} {B tb q n m : Nat} {b : Nat → Nat → Int} {l : List XR} {v : Value}
set_option maxHeartbeats 1000000 in
theorem book_new (tb q n m : Nat) (b : Nat → Nat → Int) (Sp : Nat → Prop) (w : World) (h : PAt 133 w q Sp n m b) :
    Calls Tryz.prog 30 #[.pointer (some ⟨tb, 0, none⟩), .pointer (some ⟨q, 0, none⟩)] w fun e w' => e = .returned (.pointer (some ⟨w.heap.size, 0, none⟩)) ∧ BK w' Sp w.heap.size tb q n m b [] (.slice none 0 0) ∧ Below w.heap.size w w' := by
  have H := Lib.hid h
  clear h
  go_enter Tryz.func30, Tryz.ntmps30
  go_wp2
  go_ret
  have hb : Below w.heap.size w (w.alloc (.cells #[.pointer (some ⟨tb, 0, none⟩), .pointer (some ⟨q, 0, none⟩), .slice none 0 0] 136)) := (Below.refl _ _).alloc (Nat.le_refl _) _
  refine ⟨rfl, ⟨heap_alloc_new _ _, World.ownsRow_nil _ _ _ _, H.out.below hb, ?_, fun g hg => by cases hg⟩, hb⟩
  intro hs
  obtain ⟨_, _, _, _, _, _, h3⟩ := H.out
  have := h3 _ hs
  omega

set_option maxHeartbeats 1000000 in
theorem book_idB (h : BK w Sp B tb q n m b l v) (id : Int) :
    Calls Tryz.prog 66 #[.pointer (some ⟨B, 0, none⟩), .int .i64 id] w fun e w' => e = .returned (.bool (idB l id)) ∧ w = w' := by
  obtain ⟨ao, c, rfl, _, _⟩ := h.shape
  obtain ⟨_, _, c2, _⟩ := h.cells
  obtain ⟨k, hk⟩ : ∃ k, k = l.length := ⟨_, rfl⟩
  rw [← hk] at c2
  have HK := Lib.hid hk
  clear h hk
  by_cases h0 : 0 ≤ id
  · by_cases h1 : id < (k : Int)
    · have HR := Lib.hid (show idB l id = true by unfold idB; rw [← HK.out]; exact decide_eq_true ⟨h0, h1⟩)
      go_enter Tryz.func66, Tryz.ntmps66
      go_wp2
      go_ret
      exact ⟨ret_bool HR.out.symm, rfl⟩
    · have HR := Lib.hid (show idB l id = false by unfold idB; rw [← HK.out]; exact decide_eq_false (fun h => h1 h.2))
      go_enter Tryz.func66, Tryz.ntmps66
      go_wp2
      go_ret
      exact ⟨ret_bool HR.out.symm, rfl⟩
  · have HR := Lib.hid (show idB l id = false by unfold idB; exact decide_eq_false (fun h => h0 h.1))
    go_enter Tryz.func66, Tryz.ntmps66
    go_wp2
    go_ret
    exact ⟨ret_bool HR.out.symm, rfl⟩

set_option maxHeartbeats 1000000 in
theorem book_there (h : BK w Sp B tb q n m b l v) (p : Int) :
    Calls Tryz.prog 99 #[.pointer (some ⟨B, 0, none⟩), .int .i64 p] w fun e w' => e = .returned (.bool (decide (0 ≤ p ∧ p < (n : Int)))) ∧ w = w' := by
  obtain ⟨_, c1, _, _⟩ := h.cells
  have HP := Lib.hid (pur_parties q n m Sp b w h.pu)
  clear h
  by_cases h0 : 0 ≤ p
  · by_cases h1 : p < (n : Int)
    · have HR := Lib.hid (decide_eq_true (show 0 ≤ p ∧ p < (n : Int) from ⟨h0, h1⟩))
      go_enter Tryz.func99, Tryz.ntmps99
      go_wp2_with fail
      refine HP.out.mono ?_
      rintro e w1 ⟨rfl, rfl⟩
      go_wp2
      go_ret
      exact ⟨ret_bool (by first | exact HR.out.symm | (simp; omega)), rfl⟩
    · have HR := Lib.hid (decide_eq_false (show ¬ (0 ≤ p ∧ p < (n : Int)) from fun h => h1 h.2))
      go_enter Tryz.func99, Tryz.ntmps99
      go_wp2_with fail
      refine HP.out.mono ?_
      rintro e w1 ⟨rfl, rfl⟩
      go_wp2
      go_ret
      exact ⟨ret_bool (by first | exact HR.out.symm | (simp; omega)), rfl⟩
  · have HR := Lib.hid (decide_eq_false (show ¬ (0 ≤ p ∧ p < (n : Int)) from fun h => h0 h.1))
    go_enter Tryz.func99, Tryz.ntmps99
    go_wp2
    go_ret
    exact ⟨ret_bool (by first | exact HR.out.symm | (simp; omega)), rfl⟩


set_option maxHeartbeats 1000000 in
theorem book_purse (h : BK w Sp B tb q n m b l v) :
    Calls Tryz.prog 58 #[.pointer (some ⟨B, 0, none⟩)] w fun e w' => e = .returned (.pointer (some ⟨q, 0, none⟩)) ∧ w = w' := by
  obtain ⟨_, c1, _, _⟩ := h.cells
  clear h
  go_enter Tryz.func58, Tryz.ntmps58
  go_wp2
  go_ret
  exact ⟨rfl, rfl⟩

/-- What Get tells. -/
def getX (l : List XR) (id : Int) : XR := if idB l id = true then atX l id else noX
set_option maxRecDepth 100000 in
set_option maxHeartbeats 2000000 in
theorem book_get (h : BK w Sp B tb q n m b l v) (id : Int) :
    Calls Tryz.prog 33 #[.pointer (some ⟨B, 0, none⟩), .int .i64 id] w fun e w' => e = .returned (.tuple #[.agg (getX l id).cells, .bool (idB l id)]) ∧ Below w.heap.size w w' := by
  obtain ⟨w1, hw1⟩ : ∃ w1, w1 = w.alloc (.cells noX.cells 57) := ⟨_, rfl⟩
  have hb1 : Below w.heap.size w w1 := by rw [hw1]; exact (Below.refl _ _).alloc (Nat.le_refl _) _
  have H1 := Lib.hid (h.below hb1)
  have HB1 := Lib.hid hb1
  have HX1 : Hid (w1.heap[w.heap.size]? = some (.cells noX.cells 57 (0, 0))) := Lib.hid (by rw [hw1]; exact heap_alloc_new _ _)
  have HH := Lib.hid (book_idB H1.out id)
  have HW1 := Lib.hid hw1
  clear hw1 hb1
  unfold noX XR.cells at HW1
  obtain ⟨z0, z1, z2, z3, z4, z5, z6, z7⟩ := X_cells HX1.out
  have y0 := blk_frozen HX1.out 0
  have y1 := blk_frozen HX1.out 1
  have y2 := blk_frozen HX1.out 2
  have y3 := blk_frozen HX1.out 3
  have y4 := blk_frozen HX1.out 4
  have y5 := blk_frozen HX1.out 5
  have y6 := blk_frozen HX1.out 6
  have y7 := blk_frozen HX1.out 7
  by_cases hid : idB l id = true
  case neg =>
    have HI := Lib.hid (show idB l id = false by simpa using hid)
    have HR := Lib.hid (show getX l id = noX by unfold getX; rw [if_neg hid])
    rw [HI.out] at HH
    clear h hid
    go_enter Tryz.func33, Tryz.ntmps33
    go_wp2_with fail
    rw [← HW1.out]
    refine HH.out.mono ?_
    rintro e w2 ⟨rfl, rfl⟩
    go_wp2_with fail
    obtain ⟨wf, hwf⟩ : ∃ wf, wf = fillX w1 w.heap.size noX := ⟨_, rfl⟩
    have HWF := Lib.hid hwf
    unfold fillX noX at hwf
    dsimp only at hwf
    rw [← hwf]
    clear hwf
    have HXF : Hid (wf.heap[w.heap.size]? = some (.cells noX.cells 57 (0, 0))) := Lib.hid (by rw [HWF.out]; exact fillX_heap HX1.out noX)
    have HBF : Hid (Below w.heap.size w wf) := Lib.hid (by rw [HWF.out]; exact below_fp HB1.out (fillX_keeps _ _ _) (fun i hi => by omega))
    clear z0 z1 z2 z3 z4 z5 z6 z7 y0 y1 y2 y3 y4 y5 y6 y7
    obtain ⟨q0, q1, q2, q3, q4, q5, q6, q7⟩ := X_cells HXF.out
    refine bodyPost_ret (v := .tuple #[.agg noX.cells, .bool false]) (by simp [results, Tryz.results33, go_sem, q0, q1, q2, q3, q4, q5, q6, q7, XR.cells]) rfl ?_
    rw [HR.out, HI.out]
    exact ⟨rfl, HBF.out⟩
  have HR := Lib.hid (show getX l id = atX l id by unfold getX; rw [if_pos hid])
  have HI := Lib.hid hid
  rw [hid] at HH
  have hii : 0 ≤ id ∧ id < l.length := by unfold idB at hid; simpa using hid
  obtain ⟨k, rfl⟩ : ∃ k : Nat, id = (k : Int) := ⟨id.toNat, by omega⟩
  have hkl : k < l.length := by omega
  obtain ⟨ao, c, rfl, _, _⟩ := h.shape
  obtain ⟨g, rfl, hc, _⟩ := H1.out.esc k hkl
  have HAT : Hid (atX l (k : Int) = l[k]) := Lib.hid (by unfold atX; simp [List.getD, hkl])
  rw [← HAT.out] at hc
  generalize atX l (k : Int) = x at *
  obtain ⟨_, _, c2, _⟩ := H1.out.cells
  have e0 := hc 0 (by omega)
  have e1 := hc 1 (by omega)
  have e2 := hc 2 (by omega)
  have e3 := hc 3 (by omega)
  have e4 := hc 4 (by omega)
  have e5 := hc 5 (by omega)
  have e6 := hc 6 (by omega)
  have e7 := hc 7 (by omega)
  simp only [XR.cells, List.getElem?_toArray, List.getElem?_cons_zero, List.getElem?_cons_succ, Nat.add_zero] at e0 e1 e2 e3 e4 e5 e6 e7
  have hlt : (k : Int) < (l.length : Int) := hii.2
  clear hc hid hii
  go_enter Tryz.func33, Tryz.ntmps33
  go_wp2_with fail
  rw [← HW1.out]
  refine HH.out.mono ?_
  rintro e w2 ⟨rfl, rfl⟩
  go_wp2_with fail
  obtain ⟨wf, hwf⟩ : ∃ wf, wf = fillX w1 w.heap.size x := ⟨_, rfl⟩
  have HWF := Lib.hid hwf
  unfold fillX at hwf
  rw [← hwf]
  clear hwf
  have HXF : Hid (wf.heap[w.heap.size]? = some (.cells x.cells 57 (0, 0))) := Lib.hid (by rw [HWF.out]; exact fillX_heap HX1.out x)
  have HBF : Hid (Below w.heap.size w wf) := Lib.hid (by rw [HWF.out]; exact below_fp HB1.out (fillX_keeps _ _ _) (fun i hi => by omega))
  clear z0 z1 z2 z3 z4 z5 z6 z7 y0 y1 y2 y3 y4 y5 y6 y7 e0 e1 e2 e3 e4 e5 e6 e7 c2
  obtain ⟨q0, q1, q2, q3, q4, q5, q6, q7⟩ := X_cells HXF.out
  refine bodyPost_ret (v := .tuple #[.agg x.cells, .bool true]) (by simp [results, Tryz.results33, go_sem, q0, q1, q2, q3, q4, q5, q6, q7, XR.cells]) rfl ?_
  rw [HR.out, HI.out]
  exact ⟨rfl, HBF.out⟩
end

/-- What holds of a book. -/
structure BInv (n m : Nat) (b : Nat → Nat → Int) (l : List XR) (T : Nat → Int) : Prop where
  good : Good n m b
  esc : ∀ x ∈ l, (0 ≤ x.f ∧ x.f < n) ∧ (0 ≤ x.t ∧ x.t < n) ∧ (0 ≤ x.a ∧ x.a < m) ∧ (0 ≤ x.n ∧ x.n ≤ MA)
  sum : ∀ j : Nat, j < m → tot b j n + lockedX l (j : Int) = T j
  max : ∀ j : Nat, j < m → T j ≤ MA
  few : l.length ≤ 100000
theorem openX_succ (l : List XR) (k : Nat) (h : k < l.length) : openX (l.take (k + 1)) = openX (l.take k) + (if l[k].s = 0 then 1 else 0) := by
  unfold openX
  rw [List.take_add_one, List.getElem?_eq_getElem h, List.filter_append, List.length_append]
  congr 1
  show (List.filter _ [l[k]]).length = _
  by_cases hs : l[k].s = 0
  · rw [if_pos hs]; simp [hs]
  · rw [if_neg hs]; simp [hs]
theorem openX_le (l : List XR) (k : Nat) : openX (l.take k) ≤ l.length := by
  unfold openX
  have h1 := List.length_filter_le (fun x : XR => x.s == 0) (l.take k)
  rw [List.length_take] at h1
  omega
theorem lockedX_succ (l : List XR) (k : Nat) (h : k < l.length) (j : Int) : lockedX (l.take (k + 1)) j = lockedX (l.take k) j + (if l[k].s = 0 ∧ l[k].a = j then l[k].n else 0) := by
  unfold lockedX
  rw [List.take_add_one, List.getElem?_eq_getElem h, List.filter_append, List.map_append, List.sum_append]
  congr 1
  show (List.map XR.n (List.filter _ [l[k]])).sum = _
  by_cases hs : l[k].s = 0 ∧ l[k].a = j
  · rw [if_pos hs]; simp [hs.1, hs.2]
  · rw [if_neg hs]
    have : (l[k].s == 0 && l[k].a == j) = false := by
      rw [Bool.eq_false_iff]
      intro h
      rw [Bool.and_eq_true, beq_iff_eq, beq_iff_eq] at h
      exact hs h
    simp [this]
theorem lockedX_nonneg (l : List XR) (h : ∀ x ∈ l, 0 ≤ x.n) (j : Int) : 0 ≤ lockedX l j := by
  unfold lockedX
  have : ∀ xs : List XR, (∀ x ∈ xs, 0 ≤ x.n) → 0 ≤ (xs.map XR.n).sum := fun xs => by
    induction xs with
    | nil => intro _; simp
    | cons x xs ih =>
      intro hx
      simp only [List.map_cons, List.sum_cons]
      have h1 := hx x (by simp)
      have h2 := ih (fun y hy => hx y (by simp [hy]))
      omega
  exact this _ (fun x hx => h x ((List.mem_filter.1 hx).1))
theorem lockedX_app (l l' : List XR) (j : Int) : lockedX (l ++ l') j = lockedX l j + lockedX l' j := by
  unfold lockedX
  rw [List.filter_append, List.map_append, List.sum_append]
theorem lockedX_take_le (l : List XR) (h : ∀ x ∈ l, 0 ≤ x.n) (k : Nat) (j : Int) : 0 ≤ lockedX (l.take k) j ∧ lockedX (l.take k) j ≤ lockedX l j := by
  have h1 := lockedX_nonneg (l.take k) (fun x hx => h x (List.mem_of_mem_take hx)) j
  have h2 := lockedX_nonneg (l.drop k) (fun x hx => h x (List.mem_of_mem_drop hx)) j
  have h3 := lockedX_app (l.take k) (l.drop k) j
  rw [List.take_append_drop] at h3
  omega
theorem lockedX_off (l : List XR) (j : Int) (h : ∀ x ∈ l, x.a ≠ j) : lockedX l j = 0 := by
  unfold lockedX
  have : l.filter (fun x => x.s == 0 && x.a == j) = [] := by
    rw [List.filter_eq_nil_iff]
    intro x hx
    have := h x hx
    simp [this]
  rw [this]; rfl
/-- All that there is of an asset. -/
def allX (n m : Nat) (b : Nat → Nat → Int) (l : List XR) (j : Int) : Int := totB n m b j + lockedX l j
theorem BInv.bound {n m : Nat} {b : Nat → Nat → Int} {l : List XR} {T : Nat → Int} (h : BInv n m b l T) (j : Int) : 0 ≤ totB n m b j ∧ allX n m b l j ≤ MA ∧ (∀ j' : Nat, j = (j' : Int) → j' < m → allX n m b l j = T j') := by
  unfold allX totB partB
  by_cases hj : 0 ≤ j ∧ j < m
  · rw [if_pos hj]
    obtain ⟨k, rfl⟩ : ∃ k : Nat, j = (k : Int) := ⟨j.toNat, by omega⟩
    have hk : k < m := by omega
    have h1 := h.sum k hk
    have h2 := h.max k hk
    have h3 := tot_nonneg (b := b) (j := k) (n := n) (fun i hi => h.good.pos i hi k hk)
    rw [Int.toNat_natCast]
    refine ⟨h3, by omega, fun j' e _ => ?_⟩
    have : k = j' := by omega
    rw [← this]; exact h1
  · rw [if_neg hj, lockedX_off l j (fun x hx => by have := (h.esc x hx).2.2.1; intro e; exact hj (by omega))]
    exact ⟨by omega, by unfold MA; omega, fun j' e hj' => absurd (by omega) hj⟩

section
variable {w : World} {Sp : Nat → Prop} {B tb q n m : Nat} {b : Nat → Nat → Int} {l : List XR} {v : Value}
set_option maxRecDepth 100000 in
set_option maxHeartbeats 2000000 in
theorem book_open (h : BK w Sp B tb q n m b l v) (hl : l.length ≤ 100000) :
    Calls Tryz.prog 97 #[.pointer (some ⟨B, 0, none⟩)] w fun e w' => e = .returned (.int .i64 (openX l : Int)) ∧ Below w.heap.size w w' := by
  obtain ⟨ao, c, rfl, _, _⟩ := h.shape
  obtain ⟨_, _, c2, _⟩ := h.cells
  have H := Lib.hid h
  obtain ⟨ln, hln⟩ : ∃ ln, ln = l.length := ⟨_, rfl⟩
  have HL : Hid (l.length = ln ∧ ln ≤ 100000) := Lib.hid ⟨hln.symm, by omega⟩
  rw [← hln] at c2
  clear h hl hln
  go_enter Tryz.func97, Tryz.ntmps97
  go_wp2_with fail
  clear c2
  go_loopw [3, 11] (fun s i wr => ∃ k : Nat, k ≤ ln ∧ i = .int .i64 (k : Int) ∧ s = .int .i64 (openX (l.take k) : Int) ∧ Below w.heap.size w wr) (fun _ i _ => ln - (intOf i).toNat)
  case atStart => exact ⟨0, by omega, rfl, rfl, Below.refl _ _⟩
  case round =>
    obtain ⟨k, hk, rfl, rfl, hb⟩ := hrel
    have HB := Lib.hid hb
    have HK := Lib.hid hk
    clear hb
    by_cases hlt : k < ln
    · have i1 : (k : Int) < (ln : Int) := by omega
      have hkl : k < l.length := by rw [HL.out.1]; exact hlt
      have HKL : Hid (k < ln) := Lib.hid hlt
      have HSU := Lib.hid (openX_succ l k hkl)
      have HOL := Lib.hid (openX_le l k)
      obtain ⟨g, rfl, hc, _⟩ := (H.out.below HB.out).esc k hkl
      generalize l[k] = x at *
      have e0 := hc 0 (by omega)
      have e1 := hc 1 (by omega)
      have e2 := hc 2 (by omega)
      have e3 := hc 3 (by omega)
      have e4 := hc 4 (by omega)
      have e5 := hc 5 (by omega)
      have e6 := hc 6 (by omega)
      have e7 := hc 7 (by omega)
      simp only [XR.cells, List.getElem?_toArray, List.getElem?_cons_zero, List.getElem?_cons_succ, Nat.add_zero] at e0 e1 e2 e3 e4 e5 e6 e7
      obtain ⟨w1, hw1⟩ : ∃ w1, w1 = wr.alloc (.cells x.cells 57) := ⟨_, rfl⟩
      have HB1 : Hid (Below w.heap.size w w1) := Lib.hid (by rw [hw1]; exact HB.out.alloc HB.out.size _)
      have HX1 : Hid (w1.heap[wr.heap.size]? = some (.cells x.cells 57 (0, 0))) := Lib.hid (by rw [hw1]; exact heap_alloc_new _ _)
      have HW1 := Lib.hid hw1
      unfold XR.cells at HW1
      obtain ⟨s, hs⟩ : ∃ s, s = openX (l.take k) := ⟨_, rfl⟩
      rw [← hs] at HSU HOL
      rw [← hs]
      clear hc hw1 hs hk hlt
      have HW2 : Hid (wrap64 ((k : Int) + 1) = ((k + 1 : Nat) : Int)) := Lib.hid (by have := HL.out; have := HKL.out; unfold wrap64; omega)
      have HML : Hid (ln - (intOf (.int .i64 ((k + 1 : Nat) : Int))).toNat < ln - (intOf (.int .i64 (k : Int))).toNat) := Lib.hid (by simp only [intOf]; have := HKL.out; omega)
      go_upto_region 5 with fail
      rw [← HW1.out]
      clear e0 e1 e2 e3 e4 e5 e6 e7
      obtain ⟨q0, q1, q2, q3, q4, q5, q6, q7⟩ := X_cells HX1.out
      by_cases hx : x.s = 0
      · have hb : (x.s == (0 : Int)) = true := by simp [hx]
        have HS2 : Hid (openX (l.take (k + 1)) = s + 1) := Lib.hid (by rw [HSU.out, if_pos hx])
        have HW3 : Hid (wrap64 ((s : Int) + 1) = ((s + 1 : Nat) : Int)) := Lib.hid (by have := HL.out; have := HOL.out; unfold wrap64; omega)
        clear hx
        go_wp2
        try rw [HW2.out]
        try rw [HW3.out]
        exact ⟨⟨k + 1, HKL.out, rfl, by rw [HS2.out], HB1.out⟩, HML.out⟩
      · have hb : (x.s == (0 : Int)) = false := by simp [hx]
        have HS2 : Hid (openX (l.take (k + 1)) = s) := Lib.hid (by rw [HSU.out, if_neg hx]; rfl)
        clear hx
        go_wp2
        try rw [HW2.out]
        exact ⟨⟨k + 1, HKL.out, rfl, by rw [HS2.out], HB1.out⟩, HML.out⟩
    · obtain rfl : k = ln := by omega
      have i1 : ¬ (k : Int) < (k : Int) := by omega
      have HT := Lib.hid (show l.take k = l from List.take_of_length_le (by rw [HL.out.1]; exact Nat.le_refl _))
      clear hlt hk
      go_wp2
      go_ret
      rw [HT.out]
      exact ⟨rfl, HB.out⟩

set_option maxRecDepth 100000 in
set_option maxHeartbeats 2000000 in
theorem book_total {T : Nat → Int} (h : BK w Sp B tb q n m b l v) (hI : BInv n m b l T) (j : Int) :
    Calls Tryz.prog 34 #[.pointer (some ⟨B, 0, none⟩), .int .i64 j] w fun e w' => e = .returned (.int .i64 (allX n m b l j)) ∧ Below w.heap.size w w' := by
  obtain ⟨ao, c, rfl, _, _⟩ := h.shape
  obtain ⟨_, c1, c2, _⟩ := h.cells
  have H := Lib.hid h
  have HPT := Lib.hid (pur_total q n m Sp b w h.pu hI.good j)
  have HBD := Lib.hid (hI.bound j)
  have HNN : Hid (∀ x ∈ l, 0 ≤ x.n) := Lib.hid (fun x hx => (hI.esc x hx).2.2.2.1)
  have HAL : Hid (allX n m b l j = totB n m b j + lockedX l j) := Lib.hid rfl
  obtain ⟨ln, hln⟩ : ∃ ln, ln = l.length := ⟨_, rfl⟩
  have HL : Hid (l.length = ln ∧ ln ≤ 100000) := Lib.hid ⟨hln.symm, by have := hI.few; omega⟩
  rw [← hln] at c2
  clear h hln hI
  generalize totB n m b j = tt at *
  generalize allX n m b l j = A at *
  go_enter Tryz.func34, Tryz.ntmps34
  go_wp2_with fail
  refine HPT.out.mono ?_
  rintro e w0 ⟨rfl, rfl⟩
  go_wp2_with fail
  clear c1 c2
  go_loopw [5, 19] (fun s i wr => ∃ k : Nat, k ≤ ln ∧ i = .int .i64 (k : Int) ∧ s = .int .i64 (tt + lockedX (l.take k) j) ∧ Below w.heap.size w wr) (fun _ i _ => ln - (intOf i).toNat)
  case atStart => exact ⟨0, by omega, rfl, by simp [lockedX], Below.refl _ _⟩
  case round =>
    obtain ⟨k, hk, rfl, rfl, hb⟩ := hrel
    have HB := Lib.hid hb
    have HK := Lib.hid hk
    clear hb
    by_cases hlt : k < ln
    · have i1 : (k : Int) < (ln : Int) := by omega
      have hkl : k < l.length := by rw [HL.out.1]; exact hlt
      have HKL : Hid (k < ln) := Lib.hid hlt
      have HSU := Lib.hid (lockedX_succ l k hkl j)
      have HOL := Lib.hid (lockedX_take_le l HNN.out k j)
      have HOL2 := Lib.hid (lockedX_take_le l HNN.out (k + 1) j)
      obtain ⟨g, rfl, hc, _⟩ := (H.out.below HB.out).esc k hkl
      generalize l[k] = x at *
      have e0 := hc 0 (by omega)
      have e1 := hc 1 (by omega)
      have e2 := hc 2 (by omega)
      have e3 := hc 3 (by omega)
      have e4 := hc 4 (by omega)
      have e5 := hc 5 (by omega)
      have e6 := hc 6 (by omega)
      have e7 := hc 7 (by omega)
      simp only [XR.cells, List.getElem?_toArray, List.getElem?_cons_zero, List.getElem?_cons_succ, Nat.add_zero] at e0 e1 e2 e3 e4 e5 e6 e7
      obtain ⟨w1, hw1⟩ : ∃ w1, w1 = wr.alloc (.cells x.cells 57) := ⟨_, rfl⟩
      have HB1 : Hid (Below w.heap.size w w1) := Lib.hid (by rw [hw1]; exact HB.out.alloc HB.out.size _)
      have HX1 : Hid (w1.heap[wr.heap.size]? = some (.cells x.cells 57 (0, 0))) := Lib.hid (by rw [hw1]; exact heap_alloc_new _ _)
      have HW1 := Lib.hid hw1
      unfold XR.cells at HW1
      obtain ⟨s, hs⟩ : ∃ s, s = tt + lockedX (l.take k) j := ⟨_, rfl⟩
      rw [← hs]
      have HSS : Hid (s = tt + lockedX (l.take k) j) := Lib.hid hs
      clear hc hw1 hs hk hlt
      have HW2 : Hid (wrap64 ((k : Int) + 1) = ((k + 1 : Nat) : Int)) := Lib.hid (by have := HL.out; have := HKL.out; unfold wrap64; omega)
      have HML : Hid (ln - (intOf (.int .i64 ((k + 1 : Nat) : Int))).toNat < ln - (intOf (.int .i64 (k : Int))).toNat) := Lib.hid (by simp only [intOf]; have := HKL.out; omega)
      go_upto_region 5 with fail
      rw [← HW1.out]
      clear e0 e1 e2 e3 e4 e5 e6 e7
      obtain ⟨q0, q1, q2, q3, q4, q5, q6, q7⟩ := X_cells HX1.out
      by_cases hx : x.s = 0
      · have hb : (x.s == (0 : Int)) = true := by simp [hx]
        by_cases hy : x.a = j
        · have hb2 : (x.a == j) = true := by simp [hy]
          have HS2 : Hid (tt + lockedX (l.take (k + 1)) j = s + x.n) := Lib.hid (by rw [HSU.out, if_pos ⟨hx, hy⟩, HSS.out]; omega)
          have HW3 : Hid (wrap64 (s + x.n) = s + x.n) := Lib.hid (by
            have h1 := HBD.out.1; have h2 := HBD.out.2.1; have h3 := HAL.out; have h4 := HOL2.out; have h5 := HS2.out
            unfold MA at h2
            unfold wrap64
            omega)
          clear hx hy
          go_wp2
          try rw [HW2.out]
          try rw [HW3.out]
          exact ⟨⟨k + 1, HKL.out, rfl, by rw [HS2.out], HB1.out⟩, HML.out⟩
        · have hb2 : (x.a == j) = false := by simp [hy]
          have HS2 : Hid (tt + lockedX (l.take (k + 1)) j = s) := Lib.hid (by rw [HSU.out, if_neg (fun h => hy h.2), HSS.out]; omega)
          clear hx hy
          go_wp2
          try rw [HW2.out]
          exact ⟨⟨k + 1, HKL.out, rfl, by rw [HS2.out], HB1.out⟩, HML.out⟩
      · have hb : (x.s == (0 : Int)) = false := by simp [hx]
        have HS2 : Hid (tt + lockedX (l.take (k + 1)) j = s) := Lib.hid (by rw [HSU.out, if_neg (fun h => hx h.1), HSS.out]; omega)
        clear hx
        go_wp2
        try rw [HW2.out]
        exact ⟨⟨k + 1, HKL.out, rfl, by rw [HS2.out], HB1.out⟩, HML.out⟩
    · obtain rfl : k = ln := by omega
      have i1 : ¬ (k : Int) < (k : Int) := by omega
      have HT := Lib.hid (show l.take k = l from List.take_of_length_le (by rw [HL.out.1]; exact Nat.le_refl _))
      clear hlt hk
      go_wp2
      go_ret
      rw [HT.out, ← HAL.out]
      exact ⟨rfl, HB.out⟩
end

end Go.Proofs.YtkaciaehlibidaaGreat
