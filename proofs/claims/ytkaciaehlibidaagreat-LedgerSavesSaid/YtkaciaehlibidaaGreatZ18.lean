/- Parts of the proof: Le3. -/
import Derived.Test.YtkaciaehlibidaaGreatZ16
namespace Go.Proofs.YtkaciaehlibidaaGreat
open Go.RowKit
set_option linter.unusedVariables false
set_option linter.unusedSimpArgs false
def EvB (w : World) (X : Nat) (x : EV) : Prop := w.heap[X]? = some (.cells x.cells 55 (0, 0))
def RqB (w : World) (R : Nat) (r : RQ) : Prop := w.heap[R]? = some (.cells r.cells 52 (0, 0))
def RpB (w : World) (Y : Nat) (c i : Int) : Prop := w.heap[Y]? = some (.cells #[.int .i64 c, .int .i64 i] 50 (0, 0))
theorem EvB.all {w : World} {X : Nat} {x : EV} (h : EvB w X x) : w.cell? ⟨X, 0, none⟩ = some (.int .i64 x.k) ∧ w.cell? ⟨X, 1, none⟩ = some (.int .i64 x.f) ∧ w.cell? ⟨X, 2, none⟩ = some (.int .i64 x.t) ∧ w.cell? ⟨X, 3, none⟩ = some (.int .i64 x.a) ∧ w.cell? ⟨X, 4, none⟩ = some (.int .i64 x.n) ∧ w.cell? ⟨X, 5, none⟩ = some (.int .i64 x.i) ∧ w.cell? ⟨X, 6, none⟩ = some (.int .i64 x.d) ∧ w.cell? ⟨X, 7, none⟩ = some (.string x.h) ∧ w.cell? ⟨X, 8, none⟩ = some (.string x.s) :=
 ⟨blk_cell h 0, blk_cell h 1, blk_cell h 2, blk_cell h 3, blk_cell h 4, blk_cell h 5, blk_cell h 6, blk_cell h 7, blk_cell h 8⟩
theorem RqB.all {w : World} {R : Nat} {r : RQ} (h : RqB w R r) : w.cell? ⟨R, 0, none⟩ = some (.int .i64 r.k) ∧ w.cell? ⟨R, 1, none⟩ = some (.int .i64 r.t) ∧ w.cell? ⟨R, 2, none⟩ = some (.int .i64 r.a) ∧ w.cell? ⟨R, 3, none⟩ = some (.int .i64 r.n) ∧ w.cell? ⟨R, 4, none⟩ = some (.int .i64 r.i) ∧ w.cell? ⟨R, 5, none⟩ = some (.int .i64 r.d) ∧ w.cell? ⟨R, 6, none⟩ = some (.string r.h) ∧ w.cell? ⟨R, 7, none⟩ = some (.string r.s) :=
 ⟨blk_cell h 0, blk_cell h 1, blk_cell h 2, blk_cell h 3, blk_cell h 4, blk_cell h 5, blk_cell h 6, blk_cell h 7⟩
theorem RqB.three {w : World} {R : Nat} {r : RQ} (h : RqB w R r) : w.cell? ⟨R, 1, none⟩ = some (.int .i64 r.t) ∧ w.cell? ⟨R, 2, none⟩ = some (.int .i64 r.a) ∧ w.cell? ⟨R, 3, none⟩ = some (.int .i64 r.n) := ⟨blk_cell h 1, blk_cell h 2, blk_cell h 3⟩
theorem RqB.five {w : World} {R : Nat} {r : RQ} (h : RqB w R r) : w.cell? ⟨R, 1, none⟩ = some (.int .i64 r.t) ∧ w.cell? ⟨R, 2, none⟩ = some (.int .i64 r.a) ∧ w.cell? ⟨R, 3, none⟩ = some (.int .i64 r.n) ∧ w.cell? ⟨R, 5, none⟩ = some (.int .i64 r.d) ∧ w.cell? ⟨R, 6, none⟩ = some (.string r.h) := ⟨blk_cell h 1, blk_cell h 2, blk_cell h 3, blk_cell h 5, blk_cell h 6⟩
def fillR (w : World) (Y : Nat) (c i : Int) : World := (w.setCell ⟨Y, 0, none⟩ (.int .i64 c)).setCell ⟨Y, 1, none⟩ (.int .i64 i)
def fillE (w : World) (Z : Nat) (e : EV) : World := ((((((((w.setCell ⟨Z, 0, none⟩ (.int .i64 e.k)).setCell ⟨Z, 1, none⟩ (.int .i64 e.f)).setCell ⟨Z, 2, none⟩ (.int .i64 e.t)).setCell ⟨Z, 3, none⟩ (.int .i64 e.a)).setCell ⟨Z, 4, none⟩ (.int .i64 e.n)).setCell ⟨Z, 5, none⟩ (.int .i64 e.i)).setCell ⟨Z, 6, none⟩ (.int .i64 e.d)).setCell ⟨Z, 7, none⟩ (.string e.h)).setCell ⟨Z, 8, none⟩ (.string e.s)
theorem EvB.keep {S : Nat → Prop} {w w' : World} {X : Nat} {x : EV} (h : EvB w X x) (hk : Keeps S w w') (hs : ¬ S X) : EvB w' X x := (hk.block X (blk_lt h) hs).trans h
def fill8 (w : World) (X : Nat) (r : RQ) (p : Int) : World := ((((w.setCell ⟨X, 1, none⟩ (.int .i64 p)).setCell ⟨X, 2, none⟩ (.int .i64 r.t)).setCell ⟨X, 3, none⟩ (.int .i64 r.a)).setCell ⟨X, 4, none⟩ (.int .i64 r.n))
def fill18 (w : World) (X : Nat) (r : RQ) (p ci : Int) : World := (((((((w.setCell ⟨X, 1, none⟩ (.int .i64 p)).setCell ⟨X, 2, none⟩ (.int .i64 r.t)).setCell ⟨X, 3, none⟩ (.int .i64 r.a)).setCell ⟨X, 4, none⟩ (.int .i64 r.n)).setCell ⟨X, 5, none⟩ (.int .i64 ci)).setCell ⟨X, 7, none⟩ (.string r.h)).setCell ⟨X, 6, none⟩ (.int .i64 r.d))
theorem fill8_box {w : World} {X : Nat} {r : RQ} (h : EvB w X (ev00 r)) (p : Int) : EvB (fill8 w X r p).drew X (ev01 r p) := by
 have h2 : EvB (fill8 w X r p) X (ev01 r p) := by
  unfold EvB ev00 EV.cells at h
  unfold fill8 EvB ev01 EV.cells
  simpa using (blk_set (blk_set (blk_set (blk_set h 1 (.int .i64 p)) 2 (.int .i64 r.t)) 3 (.int .i64 r.a)) 4 (.int .i64 r.n))
 exact h2.keep ((Keeps.refl (fun _ => False) _).drew) (fun h => h)
set_option maxHeartbeats 2000000 in
theorem fill18_box {w : World} {X : Nat} {r : RQ} (h : EvB w X (ev00 r)) (p ci : Int) : EvB (fill18 w X r p ci).drew X (ev02 r p ci) := by
 have h2 : EvB (fill18 w X r p ci) X (ev02 r p ci) := by
  unfold EvB ev00 EV.cells at h
  unfold fill18 EvB ev02 EV.cells
  simpa using (blk_set (blk_set (blk_set (blk_set (blk_set (blk_set (blk_set h 1 (.int .i64 p)) 2 (.int .i64 r.t)) 3 (.int .i64 r.a)) 4 (.int .i64 r.n)) 5 (.int .i64 ci)) 7 (.string r.h)) 6 (.int .i64 r.d))
 exact h2.keep ((Keeps.refl (fun _ => False) _).drew) (fun h => h)
theorem fill8_keeps (w : World) (X : Nat) (r : RQ) (p : Int) : Keeps (fun k => k = X) w (fill8 w X r p).drew := (((((Keeps.refl (fun k => k = X) w).setCell (p := ⟨X, 1, none⟩) (Or.inl rfl) _).setCell (p := ⟨X, 2, none⟩) (Or.inl rfl) _).setCell (p := ⟨X, 3, none⟩) (Or.inl rfl) _).setCell (p := ⟨X, 4, none⟩) (Or.inl rfl) _).drew
theorem fill18_keeps (w : World) (X : Nat) (r : RQ) (p ci : Int) : Keeps (fun k => k = X) w (fill18 w X r p ci).drew := ((((((((Keeps.refl (fun k => k = X) w).setCell (p := ⟨X, 1, none⟩) (Or.inl rfl) _).setCell (p := ⟨X, 2, none⟩) (Or.inl rfl) _).setCell (p := ⟨X, 3, none⟩) (Or.inl rfl) _).setCell (p := ⟨X, 4, none⟩) (Or.inl rfl) _).setCell (p := ⟨X, 5, none⟩) (Or.inl rfl) _).setCell (p := ⟨X, 7, none⟩) (Or.inl rfl) _).setCell (p := ⟨X, 6, none⟩) (Or.inl rfl) _).drew
theorem fillR_box {w : World} {Y : Nat} {c0 i0 : Int} (h : RpB w Y c0 i0) (c i : Int) : RpB (fillR w Y c i) Y c i := by
 unfold fillR RpB; unfold RpB at h
 simpa using blk_set (blk_set h 0 (.int .i64 c)) 1 (.int .i64 i)
theorem fillE_box {w : World} {Z : Nat} {e0 : EV} (h : EvB w Z e0) (e : EV) : EvB (fillE w Z e) Z e := by
 unfold fillE EvB EV.cells
 unfold EvB EV.cells at h
 simpa using blk_set (blk_set (blk_set (blk_set (blk_set (blk_set (blk_set (blk_set (blk_set h 0 (.int .i64 e.k)) 1 (.int .i64 e.f)) 2 (.int .i64 e.t)) 3 (.int .i64 e.a)) 4 (.int .i64 e.n)) 5 (.int .i64 e.i)) 6 (.int .i64 e.d)) 7 (.string e.h)) 8 (.string e.s)
theorem fillR_keeps (w : World) (Y : Nat) (c i : Int) : Keeps (fun k => k = Y) w (fillR w Y c i) :=
 ((Keeps.refl (fun k => k = Y) w).setCell (p := ⟨Y, 0, none⟩) (Or.inl rfl) _).setCell (p := ⟨Y, 1, none⟩) (Or.inl rfl) _
theorem fillE_keeps (w : World) (Z : Nat) (e : EV) : Keeps (fun k => k = Z) w (fillE w Z e) :=
 (((((((((Keeps.refl (fun k => k = Z) w).setCell (p := ⟨Z, 0, none⟩) (Or.inl rfl) _).setCell (p := ⟨Z, 1, none⟩) (Or.inl rfl) _).setCell (p := ⟨Z, 2, none⟩) (Or.inl rfl) _).setCell (p := ⟨Z, 3, none⟩) (Or.inl rfl) _).setCell (p := ⟨Z, 4, none⟩) (Or.inl rfl) _).setCell (p := ⟨Z, 5, none⟩) (Or.inl rfl) _).setCell (p := ⟨Z, 6, none⟩) (Or.inl rfl) _).setCell (p := ⟨Z, 7, none⟩) (Or.inl rfl) _).setCell (p := ⟨Z, 8, none⟩) (Or.inl rfl) _
theorem RqB.keep {S : Nat → Prop} {w w' : World} {X : Nat} {x : RQ} (h : RqB w X x) (hk : Keeps S w w') (hs : ¬ S X) : RqB w' X x := (hk.block X (blk_lt h) hs).trans h
theorem RpB.keep {S : Nat → Prop} {w w' : World} {X : Nat} {c i : Int} (h : RpB w X c i) (hk : Keeps S w w') (hs : ¬ S X) : RpB w' X c i := (hk.block X (blk_lt h) hs).trans h
structure DoAt (Sb0 Sb : Nat → Prop) (W w0 w : World) (n m : Nat) (E : Int) (s : LS) (T : Nat → Int) (A B tb q : Nat) (v : Value) (R Y Z X : Nat) (r : RQ) (x : EV) : Prop where
 ld : LDat Sb W w n m E s T A B tb q v
 rb : RqB w R r
 yb : ∃ c i, RpB w Y c i
 zb : ∃ e, EvB w Z e
 xb : EvB w X x
 ap : ∀ k, (k = R ∨ k = Y ∨ k = Z ∨ k = X) → ¬ (Sb k ∨ k = A ∨ v.ownBlock = some k)
 df : R ≠ Y ∧ R ≠ Z ∧ R ≠ X ∧ Y ≠ Z ∧ Y ≠ X ∧ Z ≠ X
 kp : Keeps Sb0 w0 w
 nw : ∀ k, Sb k → Sb0 k ∨ w0.heap.size ≤ k
 bs : w0.heap.size ≤ R ∧ w0.heap.size ≤ Y ∧ w0.heap.size ≤ Z ∧ w0.heap.size ≤ X ∧ W.heap.size ≤ w0.heap.size
section
variable {Sb0 Sb : Nat → Prop} {W w0 w w' : World} {n m : Nat} {E : Int} {s : LS} {T : Nat → Int} {A B tb q : Nat} {v : Value} {R Y Z X : Nat} {r : RQ} {x x' : EV} {b' : Nat → Nat → Int} {l' : List XR}
theorem DoAt.keep {S : Nat → Prop} (h : DoAt Sb0 Sb W w0 w n m E s T A B tb q v R Y Z X r x) (hk : Keeps S w w') (hs : ∀ k, S k → k = Y ∨ k = Z) (hy : ∃ c i, RpB w' Y c i) (hz : ∃ e, EvB w' Z e) : DoAt Sb0 Sb W w0 w' n m E s T A B tb q v R Y Z X r x := by
 have hd := h.df
 have hb := h.bs
 refine ⟨h.ld.keep hk (fun k hk2 => h.ap k (by rcases hs k hk2 with e | e <;> simp [e])) (fun k hk2 => by rcases hs k hk2 with e | e <;> omega), h.rb.keep hk (fun hh => by rcases hs R hh with e | e <;> omega), hy, hz, h.xb.keep hk (fun hh => by rcases hs X hh with e | e <;> omega), h.ap, h.df, h.kp.trans hk (fun k hk2 => Or.inr (by rcases hs k hk2 with e | e <;> omega)), h.nw, h.bs⟩
theorem DoAt.below (h : DoAt Sb0 Sb W w0 w n m E s T A B tb q v R Y Z X r x) (hb : Below w.heap.size w w') : DoAt Sb0 Sb W w0 w' n m E s T A B tb q v R Y Z X r x := by
 obtain ⟨c, i, hy⟩ := h.yb
 obtain ⟨e, hz⟩ := h.zb
 exact h.keep (Keeps.of_below (S := fun _ => False) hb) (fun _ f => f.elim) ⟨c, i, hy.keep (Keeps.of_below (S := fun _ => False) hb) (fun f => f)⟩ ⟨e, hz.keep (Keeps.of_below (S := fun _ => False) hb) (fun f => f)⟩
theorem DoAt.setX (h : DoAt Sb0 Sb W w0 w n m E s T A B tb q v R Y Z X r x) (hk : Keeps (fun k => k = X) w w') (hx : EvB w' X x') : DoAt Sb0 Sb W w0 w' n m E s T A B tb q v R Y Z X r x' := by
 have hd := h.df
 have hb := h.bs
 obtain ⟨c, i, hy⟩ := h.yb
 obtain ⟨e, hz⟩ := h.zb
 refine ⟨h.ld.keep hk (fun k hk2 => h.ap k (by simp [hk2])) (fun k hk2 => by omega), h.rb.keep hk (fun hh => by omega), ⟨c, i, hy.keep hk (fun hh => by omega)⟩, ⟨e, hz.keep hk (fun hh => by omega)⟩, hx, h.ap, h.df, h.kp.trans hk (fun k hk2 => Or.inr (by omega)), h.nw, h.bs⟩
theorem DoAt.book (h : DoAt Sb0 Sb W w0 w n m E s T A B tb q v R Y Z X r x) (hp : EPost Sb W w n m b' l' T B tb q w') : ∃ Sb', DoAt Sb0 Sb' W w0 w' n m E ⟨b', l', s.ck, s.es⟩ T A B tb q v R Y Z X r x := by
 obtain ⟨Sb', h1, h2, h3⟩ := h.ld.book hp
 obtain ⟨c, i, hy⟩ := h.yb
 obtain ⟨e, hz⟩ := h.zb
 have ha := fun k hk hh => h.ap k hk (Or.inl hh)
 refine ⟨Sb', h1, h.rb.keep h2 (ha R (by simp)), ⟨c, i, hy.keep h2 (ha Y (by simp))⟩, ⟨e, hz.keep h2 (ha Z (by simp))⟩, h.xb.keep h2 (ha X (by simp)), fun k hk hh => ?_, h.df, h.kp.trans h2 h.nw, fun k hk => ?_, h.bs⟩
 · rcases hh with hh | hh
   · rcases h3 k hh with e | e
     · exact ha k hk e
     · have h5 := blk_lt h.rb; have h6 := blk_lt hy; have h7 := blk_lt hz; have h8 := blk_lt h.xb
       omega
   · exact h.ap k hk (Or.inr hh)
 · rcases h3 k hk with e | e
   · exact h.nw k e
   · exact Or.inr (Nat.le_trans h.kp.size e)
theorem DoAt.fin1 (h : DoAt Sb0 Sb W w0 w n m E s T A B tb q v R Y Z X r x) (c i : Int) : DoAt Sb0 Sb W w0 (fillR w Y c i) n m E s T A B tb q v R Y Z X r x := by
 obtain ⟨c0, i0, hy⟩ := h.yb
 obtain ⟨e0, hz⟩ := h.zb
 have hd := h.df
 exact h.keep (fillR_keeps w Y c i) (fun k hk => Or.inl hk) ⟨c, i, fillR_box hy c i⟩ ⟨e0, hz.keep (fillR_keeps w Y c i) (fun hh => by omega)⟩
theorem DoAt.fin (h : DoAt Sb0 Sb W w0 w n m E s T A B tb q v R Y Z X r x) (c i : Int) (e : EV) :
 RpB (fillE (fillR w Y c i) Z e) Y c i ∧ EvB (fillE (fillR w Y c i) Z e) Z e ∧ DoAt Sb0 Sb W w0 (fillE (fillR w Y c i) Z e) n m E s T A B tb q v R Y Z X r x := by
 obtain ⟨c0, i0, hy⟩ := h.yb
 obtain ⟨e0, hz⟩ := h.zb
 have hd := h.df
 have h1 := fillR_box hy c i
 have h2 := hz.keep (fillR_keeps w Y c i) (fun hh => by omega)
 have h3 := fillE_box h2 e
 have h4 := h1.keep (fillE_keeps (fillR w Y c i) Z e) (fun hh => by omega)
 refine ⟨h4, h3, h.keep (((fillR_keeps w Y c i).mono (S' := fun k => k = Y ∨ k = Z) (fun _ _ hh => Or.inl hh)).trans (fillE_keeps (fillR w Y c i) Z e) (fun k hk => Or.inl (Or.inr hk))) (fun k hk => hk) ⟨c, i, h4⟩ ⟨e, h3⟩⟩
theorem DoAt.frz (h : DoAt Sb0 Sb W w0 w n m E s T A B tb q v R Y Z X r x) (j : Nat) : w.frozen? ⟨Y, j, none⟩ = false ∧ w.frozen? ⟨Z, j, none⟩ = false ∧ w.frozen? ⟨X, j, none⟩ = false := by
 obtain ⟨c0, i0, hy⟩ := h.yb
 obtain ⟨e0, hz⟩ := h.zb
 exact ⟨blk_frozen hy j, blk_frozen hz j, blk_frozen h.xb j⟩
end
def DoPost (Sb : Nat → Prop) (W w : World) (n m : Nat) (E : Int) (s : LS) (T : Nat → Int) (A B tb q : Nat) (v : Value) (a : DA) (e : Ending) (w' : World) : Prop :=
 e = .returned (.tuple #[.agg #[.int .i64 a.c, .int .i64 a.i], .agg a.e.cells]) ∧ ∃ Sb', LDat Sb' W w' n m E ⟨a.b, a.l, s.ck, s.es⟩ T A B tb q v ∧ Keeps Sb w w' ∧ ∀ i, Sb' i → Sb i ∨ w.heap.size ≤ i
section
variable {Sb : Nat → Prop} {W w : World} {n m : Nat} {E : Int} {s : LS} {T : Nat → Int} {A B tb q : Nat} {v : Value}
set_option maxRecDepth 100000 in
set_option maxHeartbeats 8000000 in
theorem ledger_does (h : LDat Sb W w n m E s T A B tb q v) (hI : LInv n m E s T) (p : Int) (r : RQ) (hsz : r.h.size + r.s.size ≤ 1000000000) :
 Calls Tryz.prog 32 #[.pointer (some ⟨A, 0, none⟩), .int .i64 p, .agg r.cells] w (DoPost Sb W w n m E s T A B tb q v (doesF n m E s p r)) := by
 have HI := Lib.hid hI
 obtain ⟨w1, hw1⟩ : ∃ w1, w1 = ((w.alloc (.cells r.cells 52)).alloc (.cells #[.int .i64 0, .int .i64 0] 50)).alloc (.cells #[.int .i64 0, .int .i64 0, .int .i64 0, .int .i64 0, .int .i64 0, .int .i64 0, .int .i64 0, .string ⟨#[]⟩, .string ⟨#[]⟩] 55) := ⟨_, rfl⟩
 obtain ⟨R, hR⟩ : ∃ R, R = w.heap.size := ⟨_, rfl⟩
 obtain ⟨Y, hY⟩ : ∃ Y, Y = w.heap.size + 1 := ⟨_, rfl⟩
 obtain ⟨Z, hZ⟩ : ∃ Z, Z = w.heap.size + 1 + 1 := ⟨_, rfl⟩
 obtain ⟨X, hX⟩ : ∃ X, X = w1.heap.size := ⟨_, rfl⟩
 obtain ⟨w2, hw2⟩ : ∃ w2, w2 = w1.alloc (.cells (ev00 r).cells 55) := ⟨_, rfl⟩
 have hs1 : w1.heap.size = w.heap.size + 1 + 1 + 1 := by rw [hw1]; simp
 have hb1 : Below w.heap.size w w1 := by rw [hw1]; exact (((Below.refl _ _).alloc (Nat.le_refl _) _).alloc (by simp) _).alloc (by simp; omega) _
 have hb2 : Below w1.heap.size w1 w2 := by rw [hw2]; exact (Below.refl _ _).alloc (Nat.le_refl _) _
 have e1 : (w.alloc (.cells r.cells 52)).heap.size = w.heap.size + 1 := by simp
 have e2 : ((w.alloc (.cells r.cells 52)).alloc (.cells #[.int .i64 0, .int .i64 0] 50)).heap.size = w.heap.size + 1 + 1 := by simp
 have hR1 : RqB w1 R r := by rw [hw1, hR]; exact (Below.heap_alloc _ _ _ (by omega)).trans ((Below.heap_alloc _ _ _ (by omega)).trans (heap_alloc_new w _))
 have hY1 : RpB w1 Y 0 0 := by rw [hw1, hY]; exact (Below.heap_alloc _ _ _ (by omega)).trans (by rw [← e1]; exact heap_alloc_new _ _)
 have hZ1 : EvB w1 Z ⟨0, 0, 0, 0, 0, 0, 0, ⟨#[]⟩, ⟨#[]⟩⟩ := by rw [hw1, hZ, ← e2]; exact heap_alloc_new _ _
 have HD2 : Hid (DoAt Sb Sb W w w2 n m E s T A B tb q v R Y Z X r (ev00 r)) := Lib.hid ⟨(h.below hb1).below hb2, (hb2.block R (blk_lt hR1)).trans hR1, ⟨0, 0, (hb2.block Y (blk_lt hY1)).trans hY1⟩, ⟨_, (hb2.block Z (blk_lt hZ1)).trans hZ1⟩, by rw [hw2, hX]; exact heap_alloc_new _ _, fun k hk hh => by have := h.lt k hh; omega, by omega, Keeps.of_below (below_step hb1 hb2), fun k hk => Or.inl hk, by have := h.eb.bel.size; omega⟩
 have HR1 := Lib.hid hR1
 have HW1 := Lib.hid hw1
 have HW2 := Lib.hid hw2
 have HRYZ : Hid (R = w.heap.size ∧ Y = w.heap.size + 1 ∧ Z = w.heap.size + 1 + 1 ∧ X = w1.heap.size) := Lib.hid ⟨hR, hY, hZ, hX⟩
 have HDF : Hid (doesF n m E s p r = if okB r = true ∧ 0 ≤ p ∧ p < n then
  if r.k = 1 then
   if room E s 1 = true then
    if r.n = 0 then ⟨1, 0, ev01 r p, s.b, s.l⟩
    else ⟨moveE n m s.b p r.t r.a r.n, 0, ev01 r p, moveN n m s.b p r.t r.a r.n, s.l⟩
   else ⟨12, 0, ev01 r p, s.b, s.l⟩
  else if r.k = 2 then
   if room E s 2 = true then ⟨lockE n m s.b p r.t r.a r.n r.h r.d s.ck, lockI n m s.b s.l p r.t r.a r.n r.h r.d s.ck, ev02 r p (lockI n m s.b s.l p r.t r.a r.n r.h r.d s.ck), lockB n m s.b p r.t r.a r.n r.h r.d s.ck, lockL n m s.b s.l p r.t r.a r.n r.h r.d s.ck⟩
   else ⟨12, 0, ev00 r, s.b, s.l⟩
  else if r.k = 3 then ⟨claimE n m s.b s.l p r.i r.s s.ck, 0, ev00 r, claimB n m s.b s.l p r.i r.s s.ck, claimL n m s.b s.l p r.i r.s s.ck⟩
  else ⟨refundE n m s.b s.l p r.i s.ck, 0, ev00 r, refundB n m s.b s.l p r.i s.ck, refundL n m s.b s.l p r.i s.ck⟩
 else ⟨1, 0, ev00 r, s.b, s.l⟩) := Lib.hid rfl
 generalize doesF n m E s p r = D at *
 have HSZ := Lib.hid hsz
 have HEN : Hid (∀ w', Below w2.heap.size w2 w' → Calls Tryz.prog 59 #[.agg #[.int .i64 0, .slice (some ⟨w2.heap.size, 0, none⟩) 1 1]] (w2.alloc (.cells r.cells 52)) fun e w' => ∃ ao k cap, e = .returned (.tuple #[.slice ao k cap, .int .i64 (if okB r = true then 0 else 1)]) ∧ Below w2.heap.size w2 w') := Lib.hid (fun _ _ => by
  have hbb : Below w2.heap.size w2 (w2.alloc (.cells r.cells 52)) := (Below.refl _ _).alloc (Nat.le_refl _) _
  have hat : RqsAt (w2.alloc (.cells r.cells 52)) (some ⟨w2.heap.size, 0, none⟩) [r] := Or.inr ⟨_, _, rfl, fun i hi => by
   match i, hi with
   | 0, _ =>
     intro j u hu
     rw [blk_cell (heap_alloc_new w2 (.cells r.cells 52))]
     simpa using hu⟩
  refine (encodeBatch 0 _ [r] 1 1 _ rfl hat (by show r.h.size + r.s.size + 0 ≤ _; omega)).mono ?_
  rintro e w' ⟨ao, cap, rfl, _, hb, _⟩
  rw [encF_one]
  exact ⟨ao, _, cap, rfl, below_step hbb hb⟩)
 clear h hI hw1 hw2 hs1 hb1 hb2 hR1 hY1 hZ1 hR hY hZ hX e1 e2 hsz
 unfold RQ.cells at HEN
 unfold ev00 EV.cells at HW2
 dsimp only at HW2
 obtain ⟨r0, _, _, _, r4, _, _, r7⟩ := HR1.out.all
 go_enter Tryz.func32, Tryz.ntmps32
 go_upto_region 1 with fail
 rw [← HW1.out, ← HRYZ.out.2.2.1, ← HRYZ.out.2.1, ← HRYZ.out.1]
 go_upto_region 2 with fail
 rw [← HW2.out, ← HRYZ.out.2.2.2]
 clear HW1 HW2 HR1 r0 r4 r7
 obtain ⟨r0, r1, r2, r3, r4, r5, r6, r7⟩ := HD2.out.rb.all
 obtain ⟨_, c2, _, _⟩ := HD2.out.ld.cells
 go_wp2_with fail
 refine (HD2.out.ld.eb.purse).mono ?_
 rintro e wx ⟨rfl, rfl⟩
 rename World => w2
 go_wp2_with fail
 refine (HEN.out w2 (Below.refl _ _)).mono ?_
 rintro e w4 ⟨ao, k, cap, rfl, hb4⟩
 have HD4 := Lib.hid (HD2.out.below hb4)
 clear hb4 HD2 HEN r0 r1 r2 r3 r4 r5 r6 r7 c2
 have hno : ((1 : Int) != 0) = true := rfl
 have hok0 : ((0 : Int) != 0) = false := rfl
 have ey := fun j => (HD4.out.frz j).1
 have ez := fun j => (HD4.out.frz j).2.1
 have ex := fun j => (HD4.out.frz j).2.2
 have FY0 := Lib.hid (ey 0)
 clear ey ez ex FY0
 cases hok : okB r
 case false =>
  have HDD : Hid (D = ⟨1, 0, ev00 r, s.b, s.l⟩) := Lib.hid (by rw [HDF.out, if_neg (fun h => by rw [hok] at h; exact absurd h.1 (by decide))])
  clear HDF hok
  obtain ⟨x0, x1, x2, x3, x4, x5, x6, x7, x8⟩ := HD4.out.xb.all
  unfold ev00 at x0 x1 x2 x3 x4 x5 x6 x7 x8
  dsimp only at x0 x1 x2 x3 x4 x5 x6 x7 x8
  obtain ⟨ya, yb, hyb⟩ := HD4.out.yb
  have yc0 := blk_cell hyb 0
  have yc1 := blk_cell hyb 1
  simp only [lq] at yc0 yc1
  obtain ⟨ze, hze⟩ := HD4.out.zb
  obtain ⟨zc0, zc1, zc2, zc3, zc4, zc5, zc6, zc7, zc8⟩ := hze.all
  have yf0 := (HD4.out.frz 0).1
  have yf1 := (HD4.out.frz 1).1
  have zf0 := (HD4.out.frz 0).2.1
  have zf1 := (HD4.out.frz 1).2.1
  have zf2 := (HD4.out.frz 2).2.1
  have zf3 := (HD4.out.frz 3).2.1
  have zf4 := (HD4.out.frz 4).2.1
  have zf5 := (HD4.out.frz 5).2.1
  have zf6 := (HD4.out.frz 6).2.1
  have zf7 := (HD4.out.frz 7).2.1
  have zf8 := (HD4.out.frz 8).2.1
  have hYZ : ¬ Y = Z := HD4.out.df.2.2.2.1
  have hZY : ¬ Z = Y := fun h => hYZ h.symm
  clear hyb hze
  have K0d := HD4.out.fin1 (1) (0)
  have K1d := (HD4.out.fin (1) (0) (ev00 r)).2.2
  have K0d := K0d.below (below_drew _)
  have K1d := K1d.below (below_drew _)
  have K0 : (fun (w' : World) => w'.cell? ⟨X, 0, none⟩ = some (.int .i64 (r.k)) ∧ w'.cell? ⟨X, 1, none⟩ = some (.int .i64 (0)) ∧ w'.cell? ⟨X, 2, none⟩ = some (.int .i64 (0)) ∧ w'.cell? ⟨X, 3, none⟩ = some (.int .i64 (0)) ∧ w'.cell? ⟨X, 4, none⟩ = some (.int .i64 (0)) ∧ w'.cell? ⟨X, 5, none⟩ = some (.int .i64 (r.i)) ∧ w'.cell? ⟨X, 6, none⟩ = some (.int .i64 (0)) ∧ w'.cell? ⟨X, 7, none⟩ = some (.string ⟨#[]⟩) ∧ w'.cell? ⟨X, 8, none⟩ = some (.string r.s)) (fillR w4 Y (1) (0)).drew := by
   exact K0d.xb.all
  have K1 : (fun (w' : World) => w'.cell? ⟨X, 0, none⟩ = some (.int .i64 (r.k)) ∧ w'.cell? ⟨X, 1, none⟩ = some (.int .i64 (0)) ∧ w'.cell? ⟨X, 2, none⟩ = some (.int .i64 (0)) ∧ w'.cell? ⟨X, 3, none⟩ = some (.int .i64 (0)) ∧ w'.cell? ⟨X, 4, none⟩ = some (.int .i64 (0)) ∧ w'.cell? ⟨X, 5, none⟩ = some (.int .i64 (r.i)) ∧ w'.cell? ⟨X, 6, none⟩ = some (.int .i64 (0)) ∧ w'.cell? ⟨X, 7, none⟩ = some (.string ⟨#[]⟩) ∧ w'.cell? ⟨X, 8, none⟩ = some (.string r.s)) (fillE (fillR w4 Y (1) (0)) Z (ev00 r)).drew := by
   exact K1d.xb.all
  unfold fillR at K0
  unfold fillE fillR ev00 at K1
  dsimp only at K0 K1
  have HK0 := Lib.hid K0
  have HK1 := Lib.hid K1
  clear K0 K1 K0d K1d
  go_upto_region 5 with fail
  refine wp_region_held_drew (S := fun w' => w'.cell? ⟨X, 0, none⟩ = some (.int .i64 (r.k)) ∧ w'.cell? ⟨X, 1, none⟩ = some (.int .i64 (0)) ∧ w'.cell? ⟨X, 2, none⟩ = some (.int .i64 (0)) ∧ w'.cell? ⟨X, 3, none⟩ = some (.int .i64 (0)) ∧ w'.cell? ⟨X, 4, none⟩ = some (.int .i64 (0)) ∧ w'.cell? ⟨X, 5, none⟩ = some (.int .i64 (r.i)) ∧ w'.cell? ⟨X, 6, none⟩ = some (.int .i64 (0)) ∧ w'.cell? ⟨X, 7, none⟩ = some (.string ⟨#[]⟩) ∧ w'.cell? ⟨X, 8, none⟩ = some (.string r.s)) (by kernel_rfl) ?_ (fun hHeld => ?_)
  · exact ⟨x0, x1, x2, x3, x4, x5, x6, x7, x8⟩
  refine tk 0 45 ?_
  simp only [lz]
  refine tk 1 46 ?_
  simp only [lz]
  refine wpAnyH_ready (rs := [2]) (by kernel_rfl) (by simp) ?_
  refine AllReadyH.cons rfl (fun K hK => ?_) AllReadyH.nil
  go_simp
  skip
  go_wp2_with fail
  refine hK.out _ _ ?_ (fun hHeld => ?_)
  · exact HK0.out
  clear hK K
  try simp only [Act.put, lg]
  try simp only [lz]
  refine wpAnyH_ready (rs := [3]) (by kernel_rfl) (by simp) ?_
  refine AllReadyH.cons rfl (fun K hK => ?_) AllReadyH.nil
  go_simp
  skip
  go_wp2_with fail
  refine hK.out _ _ ?_ (fun hHeld => ?_)
  · exact HK1.out
  clear hK K
  try simp only [Act.put, lg]
  try simp only [lz]
  refine wpAnyH_done (by kernel_rfl) ?_ _
  clear hHeld x0 x1 x2 x3 x4 x5 x6 x7 x8 yc0 yc1 zc0 zc1 zc2 zc3 zc4 zc5 zc6 zc7 zc8 yf0 yf1 zf0 zf1 zf2 zf3 zf4 zf5 zf6 zf7 zf8 HK0 HK1
  go_wp2_with fail
  obtain ⟨wf, hwf⟩ : ∃ wf, wf = (fillE (fillR w4 Y (1) (0)) Z (ev00 r)).drew := ⟨_, rfl⟩
  have HF := HD4.out.fin (1) (0) (ev00 r)
  have HFy : Hid (RpB wf Y (1) (0)) := Lib.hid (by rw [hwf]; exact HF.1.keep (Keeps.of_below (S := fun _ => False) (below_drew _)) (fun h => h))
  have HFz : Hid (EvB wf Z (ev00 r)) := Lib.hid (by rw [hwf]; exact HF.2.1.keep (Keeps.of_below (S := fun _ => False) (below_drew _)) (fun h => h))
  have HFd := Lib.hid (HF.2.2.below (below_drew _))
  rw [← hwf] at HFd
  clear HF
  unfold fillE fillR ev00 at hwf
  dsimp only at hwf
  rw [← hwf]
  clear hwf
  have ry0 := blk_cell HFy.out 0
  have ry1 := blk_cell HFy.out 1
  obtain ⟨z0, z1, z2, z3, z4, z5, z6, z7, z8⟩ := HFz.out.all
  simp only [lq] at ry0 ry1
  refine bodyPost_ret (v := .tuple #[.agg #[.int .i64 (1), .int .i64 (0)], .agg (ev00 r).cells]) (by simp [results, Tryz.results32, go_sem, ry0, ry1, z0, z1, z2, z3, z4, z5, z6, z7, z8, EV.cells]) rfl ?_
  rw [HDD.out]
  exact ⟨rfl, _, HFd.out.ld, HFd.out.kp, HFd.out.nw⟩
 by_cases hp0 : p < 0
 · have HDD : Hid (D = ⟨1, 0, ev00 r, s.b, s.l⟩) := Lib.hid (by rw [HDF.out, if_neg (fun h => by omega)])
   clear HDF hok
   obtain ⟨x0, x1, x2, x3, x4, x5, x6, x7, x8⟩ := HD4.out.xb.all
   unfold ev00 at x0 x1 x2 x3 x4 x5 x6 x7 x8
   dsimp only at x0 x1 x2 x3 x4 x5 x6 x7 x8
   obtain ⟨ya, yb, hyb⟩ := HD4.out.yb
   have yc0 := blk_cell hyb 0
   have yc1 := blk_cell hyb 1
   simp only [lq] at yc0 yc1
   obtain ⟨ze, hze⟩ := HD4.out.zb
   obtain ⟨zc0, zc1, zc2, zc3, zc4, zc5, zc6, zc7, zc8⟩ := hze.all
   have yf0 := (HD4.out.frz 0).1
   have yf1 := (HD4.out.frz 1).1
   have zf0 := (HD4.out.frz 0).2.1
   have zf1 := (HD4.out.frz 1).2.1
   have zf2 := (HD4.out.frz 2).2.1
   have zf3 := (HD4.out.frz 3).2.1
   have zf4 := (HD4.out.frz 4).2.1
   have zf5 := (HD4.out.frz 5).2.1
   have zf6 := (HD4.out.frz 6).2.1
   have zf7 := (HD4.out.frz 7).2.1
   have zf8 := (HD4.out.frz 8).2.1
   have hYZ : ¬ Y = Z := HD4.out.df.2.2.2.1
   have hZY : ¬ Z = Y := fun h => hYZ h.symm
   clear hyb hze
   have K0d := HD4.out.fin1 (1) (0)
   have K1d := (HD4.out.fin (1) (0) (ev00 r)).2.2
   have K0d := K0d.below (below_drew _)
   have K1d := K1d.below (below_drew _)
   have K0 : (fun (w' : World) => w'.cell? ⟨X, 0, none⟩ = some (.int .i64 (r.k)) ∧ w'.cell? ⟨X, 1, none⟩ = some (.int .i64 (0)) ∧ w'.cell? ⟨X, 2, none⟩ = some (.int .i64 (0)) ∧ w'.cell? ⟨X, 3, none⟩ = some (.int .i64 (0)) ∧ w'.cell? ⟨X, 4, none⟩ = some (.int .i64 (0)) ∧ w'.cell? ⟨X, 5, none⟩ = some (.int .i64 (r.i)) ∧ w'.cell? ⟨X, 6, none⟩ = some (.int .i64 (0)) ∧ w'.cell? ⟨X, 7, none⟩ = some (.string ⟨#[]⟩) ∧ w'.cell? ⟨X, 8, none⟩ = some (.string r.s)) (fillR w4 Y (1) (0)).drew := by
    exact K0d.xb.all
   have K1 : (fun (w' : World) => w'.cell? ⟨X, 0, none⟩ = some (.int .i64 (r.k)) ∧ w'.cell? ⟨X, 1, none⟩ = some (.int .i64 (0)) ∧ w'.cell? ⟨X, 2, none⟩ = some (.int .i64 (0)) ∧ w'.cell? ⟨X, 3, none⟩ = some (.int .i64 (0)) ∧ w'.cell? ⟨X, 4, none⟩ = some (.int .i64 (0)) ∧ w'.cell? ⟨X, 5, none⟩ = some (.int .i64 (r.i)) ∧ w'.cell? ⟨X, 6, none⟩ = some (.int .i64 (0)) ∧ w'.cell? ⟨X, 7, none⟩ = some (.string ⟨#[]⟩) ∧ w'.cell? ⟨X, 8, none⟩ = some (.string r.s)) (fillE (fillR w4 Y (1) (0)) Z (ev00 r)).drew := by
    exact K1d.xb.all
   unfold fillR at K0
   unfold fillE fillR ev00 at K1
   dsimp only at K0 K1
   have HK0 := Lib.hid K0
   have HK1 := Lib.hid K1
   clear K0 K1 K0d K1d
   go_upto_region 5 with fail
   refine wp_region_held_drew (S := fun w' => w'.cell? ⟨X, 0, none⟩ = some (.int .i64 (r.k)) ∧ w'.cell? ⟨X, 1, none⟩ = some (.int .i64 (0)) ∧ w'.cell? ⟨X, 2, none⟩ = some (.int .i64 (0)) ∧ w'.cell? ⟨X, 3, none⟩ = some (.int .i64 (0)) ∧ w'.cell? ⟨X, 4, none⟩ = some (.int .i64 (0)) ∧ w'.cell? ⟨X, 5, none⟩ = some (.int .i64 (r.i)) ∧ w'.cell? ⟨X, 6, none⟩ = some (.int .i64 (0)) ∧ w'.cell? ⟨X, 7, none⟩ = some (.string ⟨#[]⟩) ∧ w'.cell? ⟨X, 8, none⟩ = some (.string r.s)) (by kernel_rfl) ?_ (fun hHeld => ?_)
   · exact ⟨x0, x1, x2, x3, x4, x5, x6, x7, x8⟩
   refine tk 0 45 ?_
   simp only [lz]
   refine tk 1 46 ?_
   simp only [lz]
   refine wpAnyH_ready (rs := [2]) (by kernel_rfl) (by simp) ?_
   refine AllReadyH.cons rfl (fun K hK => ?_) AllReadyH.nil
   go_simp
   skip
   go_wp2_with fail
   refine hK.out _ _ ?_ (fun hHeld => ?_)
   · exact HK0.out
   clear hK K
   try simp only [Act.put, lg]
   try simp only [lz]
   refine wpAnyH_ready (rs := [3]) (by kernel_rfl) (by simp) ?_
   refine AllReadyH.cons rfl (fun K hK => ?_) AllReadyH.nil
   go_simp
   skip
   go_wp2_with fail
   refine hK.out _ _ ?_ (fun hHeld => ?_)
   · exact HK1.out
   clear hK K
   try simp only [Act.put, lg]
   try simp only [lz]
   refine wpAnyH_done (by kernel_rfl) ?_ _
   clear hHeld x0 x1 x2 x3 x4 x5 x6 x7 x8 yc0 yc1 zc0 zc1 zc2 zc3 zc4 zc5 zc6 zc7 zc8 yf0 yf1 zf0 zf1 zf2 zf3 zf4 zf5 zf6 zf7 zf8 HK0 HK1
   go_wp2_with fail
   obtain ⟨wf, hwf⟩ : ∃ wf, wf = (fillE (fillR w4 Y (1) (0)) Z (ev00 r)).drew := ⟨_, rfl⟩
   have HF := HD4.out.fin (1) (0) (ev00 r)
   have HFy : Hid (RpB wf Y (1) (0)) := Lib.hid (by rw [hwf]; exact HF.1.keep (Keeps.of_below (S := fun _ => False) (below_drew _)) (fun h => h))
   have HFz : Hid (EvB wf Z (ev00 r)) := Lib.hid (by rw [hwf]; exact HF.2.1.keep (Keeps.of_below (S := fun _ => False) (below_drew _)) (fun h => h))
   have HFd := Lib.hid (HF.2.2.below (below_drew _))
   rw [← hwf] at HFd
   clear HF
   unfold fillE fillR ev00 at hwf
   dsimp only at hwf
   rw [← hwf]
   clear hwf
   have ry0 := blk_cell HFy.out 0
   have ry1 := blk_cell HFy.out 1
   obtain ⟨z0, z1, z2, z3, z4, z5, z6, z7, z8⟩ := HFz.out.all
   simp only [lq] at ry0 ry1
   refine bodyPost_ret (v := .tuple #[.agg #[.int .i64 (1), .int .i64 (0)], .agg (ev00 r).cells]) (by simp [results, Tryz.results32, go_sem, ry0, ry1, z0, z1, z2, z3, z4, z5, z6, z7, z8, EV.cells]) rfl ?_
   rw [HDD.out]
   exact ⟨rfl, _, HFd.out.ld, HFd.out.kp, HFd.out.nw⟩
 have hp0' : 0 ≤ p := by omega
 by_cases hpn : (n : Int) ≤ p
 · have HDD : Hid (D = ⟨1, 0, ev00 r, s.b, s.l⟩) := Lib.hid (by rw [HDF.out, if_neg (fun h => by omega)])
   clear HDF hok
   go_wp2_with fail
   refine (HD4.out.ld.eb.there).mono ?_
   rintro e wx ⟨rfl, rfl⟩
   rename World => w4
   obtain ⟨x0, x1, x2, x3, x4, x5, x6, x7, x8⟩ := HD4.out.xb.all
   unfold ev00 at x0 x1 x2 x3 x4 x5 x6 x7 x8
   dsimp only at x0 x1 x2 x3 x4 x5 x6 x7 x8
   obtain ⟨ya, yb, hyb⟩ := HD4.out.yb
   have yc0 := blk_cell hyb 0
   have yc1 := blk_cell hyb 1
   simp only [lq] at yc0 yc1
   obtain ⟨ze, hze⟩ := HD4.out.zb
   obtain ⟨zc0, zc1, zc2, zc3, zc4, zc5, zc6, zc7, zc8⟩ := hze.all
   have yf0 := (HD4.out.frz 0).1
   have yf1 := (HD4.out.frz 1).1
   have zf0 := (HD4.out.frz 0).2.1
   have zf1 := (HD4.out.frz 1).2.1
   have zf2 := (HD4.out.frz 2).2.1
   have zf3 := (HD4.out.frz 3).2.1
   have zf4 := (HD4.out.frz 4).2.1
   have zf5 := (HD4.out.frz 5).2.1
   have zf6 := (HD4.out.frz 6).2.1
   have zf7 := (HD4.out.frz 7).2.1
   have zf8 := (HD4.out.frz 8).2.1
   have hYZ : ¬ Y = Z := HD4.out.df.2.2.2.1
   have hZY : ¬ Z = Y := fun h => hYZ h.symm
   clear hyb hze
   have K0d := HD4.out.fin1 (1) (0)
   have K1d := (HD4.out.fin (1) (0) (ev00 r)).2.2
   have K0d := K0d.below (below_drew _)
   have K1d := K1d.below (below_drew _)
   have K0 : (fun (w' : World) => w'.cell? ⟨X, 0, none⟩ = some (.int .i64 (r.k)) ∧ w'.cell? ⟨X, 1, none⟩ = some (.int .i64 (0)) ∧ w'.cell? ⟨X, 2, none⟩ = some (.int .i64 (0)) ∧ w'.cell? ⟨X, 3, none⟩ = some (.int .i64 (0)) ∧ w'.cell? ⟨X, 4, none⟩ = some (.int .i64 (0)) ∧ w'.cell? ⟨X, 5, none⟩ = some (.int .i64 (r.i)) ∧ w'.cell? ⟨X, 6, none⟩ = some (.int .i64 (0)) ∧ w'.cell? ⟨X, 7, none⟩ = some (.string ⟨#[]⟩) ∧ w'.cell? ⟨X, 8, none⟩ = some (.string r.s)) (fillR w4 Y (1) (0)).drew := by
    exact K0d.xb.all
   have K1 : (fun (w' : World) => w'.cell? ⟨X, 0, none⟩ = some (.int .i64 (r.k)) ∧ w'.cell? ⟨X, 1, none⟩ = some (.int .i64 (0)) ∧ w'.cell? ⟨X, 2, none⟩ = some (.int .i64 (0)) ∧ w'.cell? ⟨X, 3, none⟩ = some (.int .i64 (0)) ∧ w'.cell? ⟨X, 4, none⟩ = some (.int .i64 (0)) ∧ w'.cell? ⟨X, 5, none⟩ = some (.int .i64 (r.i)) ∧ w'.cell? ⟨X, 6, none⟩ = some (.int .i64 (0)) ∧ w'.cell? ⟨X, 7, none⟩ = some (.string ⟨#[]⟩) ∧ w'.cell? ⟨X, 8, none⟩ = some (.string r.s)) (fillE (fillR w4 Y (1) (0)) Z (ev00 r)).drew := by
    exact K1d.xb.all
   unfold fillR at K0
   unfold fillE fillR ev00 at K1
   dsimp only at K0 K1
   have HK0 := Lib.hid K0
   have HK1 := Lib.hid K1
   clear K0 K1 K0d K1d
   go_upto_region 5 with fail
   refine wp_region_held_drew (S := fun w' => w'.cell? ⟨X, 0, none⟩ = some (.int .i64 (r.k)) ∧ w'.cell? ⟨X, 1, none⟩ = some (.int .i64 (0)) ∧ w'.cell? ⟨X, 2, none⟩ = some (.int .i64 (0)) ∧ w'.cell? ⟨X, 3, none⟩ = some (.int .i64 (0)) ∧ w'.cell? ⟨X, 4, none⟩ = some (.int .i64 (0)) ∧ w'.cell? ⟨X, 5, none⟩ = some (.int .i64 (r.i)) ∧ w'.cell? ⟨X, 6, none⟩ = some (.int .i64 (0)) ∧ w'.cell? ⟨X, 7, none⟩ = some (.string ⟨#[]⟩) ∧ w'.cell? ⟨X, 8, none⟩ = some (.string r.s)) (by kernel_rfl) ?_ (fun hHeld => ?_)
   · exact ⟨x0, x1, x2, x3, x4, x5, x6, x7, x8⟩
   refine tk 0 45 ?_
   simp only [lz]
   refine tk 1 46 ?_
   simp only [lz]
   refine wpAnyH_ready (rs := [2]) (by kernel_rfl) (by simp) ?_
   refine AllReadyH.cons rfl (fun K hK => ?_) AllReadyH.nil
   go_simp
   skip
   go_wp2_with fail
   refine hK.out _ _ ?_ (fun hHeld => ?_)
   · exact HK0.out
   clear hK K
   try simp only [Act.put, lg]
   try simp only [lz]
   refine wpAnyH_ready (rs := [3]) (by kernel_rfl) (by simp) ?_
   refine AllReadyH.cons rfl (fun K hK => ?_) AllReadyH.nil
   go_simp
   skip
   go_wp2_with fail
   refine hK.out _ _ ?_ (fun hHeld => ?_)
   · exact HK1.out
   clear hK K
   try simp only [Act.put, lg]
   try simp only [lz]
   refine wpAnyH_done (by kernel_rfl) ?_ _
   clear hHeld x0 x1 x2 x3 x4 x5 x6 x7 x8 yc0 yc1 zc0 zc1 zc2 zc3 zc4 zc5 zc6 zc7 zc8 yf0 yf1 zf0 zf1 zf2 zf3 zf4 zf5 zf6 zf7 zf8 HK0 HK1
   go_wp2_with fail
   obtain ⟨wf, hwf⟩ : ∃ wf, wf = (fillE (fillR w4 Y (1) (0)) Z (ev00 r)).drew := ⟨_, rfl⟩
   have HF := HD4.out.fin (1) (0) (ev00 r)
   have HFy : Hid (RpB wf Y (1) (0)) := Lib.hid (by rw [hwf]; exact HF.1.keep (Keeps.of_below (S := fun _ => False) (below_drew _)) (fun h => h))
   have HFz : Hid (EvB wf Z (ev00 r)) := Lib.hid (by rw [hwf]; exact HF.2.1.keep (Keeps.of_below (S := fun _ => False) (below_drew _)) (fun h => h))
   have HFd := Lib.hid (HF.2.2.below (below_drew _))
   rw [← hwf] at HFd
   clear HF
   unfold fillE fillR ev00 at hwf
   dsimp only at hwf
   rw [← hwf]
   clear hwf
   have ry0 := blk_cell HFy.out 0
   have ry1 := blk_cell HFy.out 1
   obtain ⟨z0, z1, z2, z3, z4, z5, z6, z7, z8⟩ := HFz.out.all
   simp only [lq] at ry0 ry1
   refine bodyPost_ret (v := .tuple #[.agg #[.int .i64 (1), .int .i64 (0)], .agg (ev00 r).cells]) (by simp [results, Tryz.results32, go_sem, ry0, ry1, z0, z1, z2, z3, z4, z5, z6, z7, z8, EV.cells]) rfl ?_
   rw [HDD.out]
   exact ⟨rfl, _, HFd.out.ld, HFd.out.kp, HFd.out.nw⟩
 rw [if_pos ⟨hok, hp0', by omega⟩] at HDF
 clear hok
 go_wp2_with fail
 refine (HD4.out.ld.eb.there).mono ?_
 rintro e wx ⟨rfl, rfl⟩
 rename World => w4
 clear hp0
 obtain ⟨r0, r1, r2, r3, r4, r5, r6, r7⟩ := HD4.out.rb.all
 by_cases hk1 : r.k = 1
 · rw [if_pos hk1] at HDF
   have kb1 : (r.k == 1) = true := by simp [hk1]
   clear hk1
   have fx := fun j => (HD4.out.frz j).2.2
   have xf0 := fx 0
   have xf1 := fx 1
   have xf2 := fx 2
   have xf3 := fx 3
   have xf4 := fx 4
   clear fx
   have HRX : Hid (RqB w4 R r) := Lib.hid HD4.out.rb
   have HXR : Hid (¬ R = X) := Lib.hid HD4.out.df.2.2.1
   go_upto_region 8 with fail
   obtain ⟨_, g1, g2, g3, g4, _⟩ := HD4.out.xb.all
   unfold ev00 at g1 g2 g3 g4
   dsimp only at g1 g2 g3 g4
   refine wp_region_held_drew (S := fun w' => w'.cell? ⟨R, 1, none⟩ = some (.int .i64 r.t) ∧ w'.cell? ⟨R, 2, none⟩ = some (.int .i64 r.a) ∧ w'.cell? ⟨R, 3, none⟩ = some (.int .i64 r.n)) (by kernel_rfl) ?_ (fun hHeld => ?_)
   · exact ⟨r1, r2, r3⟩
   refine tk 0 51 ?_
   simp only [lz]
   refine tk 1 52 ?_
   simp only [lz]
   refine tk 2 53 ?_
   simp only [lz]
   refine tk 3 54 ?_
   simp only [lz]
   refine tk 4 55 ?_
   simp only [lz]
   refine tk 5 56 ?_
   simp only [lz]
   refine tk 6 57 ?_
   simp only [lz]
   refine tk 7 58 ?_
   simp only [lz]
   refine wpAnyH_ready (rs := [8]) (by kernel_rfl) (by simp) ?_
   refine AllReadyH.cons rfl (fun K hK => ?_) AllReadyH.nil
   go_simp
   skip
   go_wp2_with fail
   refine hK.out _ _ ?_ (fun hHeld => ?_)
   · exact (HRX.out.keep ((Keeps.refl (fun k => k = X) w4).setCell (p := ⟨X, 1, none⟩) (Or.inl rfl) _).drew HXR.out).three
   clear hK K
   try simp only [Act.put, lg]
   try simp only [lz]
   refine tk 9 59 ?_
   simp only [lz]
   refine wpAnyH_ready (rs := [10]) (by kernel_rfl) (by simp) ?_
   refine AllReadyH.cons rfl (fun K hK => ?_) AllReadyH.nil
   go_simp
   skip
   go_wp2_with fail
   refine hK.out _ _ ?_ (fun hHeld => ?_)
   · exact (HRX.out.keep (((Keeps.refl (fun k => k = X) w4).setCell (p := ⟨X, 1, none⟩) (Or.inl rfl) _).setCell (p := ⟨X, 2, none⟩) (Or.inl rfl) _).drew HXR.out).three
   clear hK K
   try simp only [Act.put, lg]
   try simp only [lz]
   refine tk 11 60 ?_
   simp only [lz]
   refine wpAnyH_ready (rs := [12]) (by kernel_rfl) (by simp) ?_
   refine AllReadyH.cons rfl (fun K hK => ?_) AllReadyH.nil
   go_simp
   skip
   go_wp2_with fail
   refine hK.out _ _ ?_ (fun hHeld => ?_)
   · exact (HRX.out.keep ((((Keeps.refl (fun k => k = X) w4).setCell (p := ⟨X, 1, none⟩) (Or.inl rfl) _).setCell (p := ⟨X, 2, none⟩) (Or.inl rfl) _).setCell (p := ⟨X, 3, none⟩) (Or.inl rfl) _).drew HXR.out).three
   clear hK K
   try simp only [Act.put, lg]
   try simp only [lz]
   refine tk 13 61 ?_
   simp only [lz]
   refine wpAnyH_ready (rs := [14]) (by kernel_rfl) (by simp) ?_
   refine AllReadyH.cons rfl (fun K hK => ?_) AllReadyH.nil
   go_simp
   skip
   go_wp2_with fail
   refine hK.out _ _ ?_ (fun hHeld => ?_)
   · exact (HRX.out.keep (((((Keeps.refl (fun k => k = X) w4).setCell (p := ⟨X, 1, none⟩) (Or.inl rfl) _).setCell (p := ⟨X, 2, none⟩) (Or.inl rfl) _).setCell (p := ⟨X, 3, none⟩) (Or.inl rfl) _).setCell (p := ⟨X, 4, none⟩) (Or.inl rfl) _).drew HXR.out).three
   clear hK K
   try simp only [Act.put, lg]
   try simp only [lz]
   refine wpAnyH_done (by kernel_rfl) ?_ _
   clear hHeld xf0 xf1 xf2 xf3 xf4 r0 r1 r2 r3 r4 r5 r6 r7 g1 g2 g3 g4
   obtain ⟨w5, hw5⟩ : ∃ w5, w5 = (fill8 w4 X r p).drew := ⟨_, rfl⟩
   have HX5 : Hid (EvB w5 X (ev01 r p)) := Lib.hid (by rw [hw5]; exact fill8_box HD4.out.xb p)
   have HD5 := Lib.hid (HD4.out.setX (by rw [hw5]; exact fill8_keeps w4 X r p) HX5.out)
   unfold fill8 at hw5
   rw [← hw5]
   clear hw5 HRX HXR HX5
   go_wp2_with fail
   refine (ledger_room HD5.out.ld HI.out 1 (by omega) (by omega)).mono ?_
   rintro e w6 ⟨rfl, hb6⟩
   have HD6 := Lib.hid (HD5.out.below hb6)
   clear hb6 HD5 HD4
   cases hrm : room E s 1
   case false =>
    have HDD : Hid (D = ⟨12, 0, ev01 r p, s.b, s.l⟩) := Lib.hid (by rw [HDF.out, if_neg (by rw [hrm]; decide)])
    clear HDF hrm
    obtain ⟨x0, x1, x2, x3, x4, x5, x6, x7, x8⟩ := HD6.out.xb.all
    unfold ev01 at x0 x1 x2 x3 x4 x5 x6 x7 x8
    dsimp only at x0 x1 x2 x3 x4 x5 x6 x7 x8
    obtain ⟨ya, yb, hyb⟩ := HD6.out.yb
    have yc0 := blk_cell hyb 0
    have yc1 := blk_cell hyb 1
    simp only [lq] at yc0 yc1
    obtain ⟨ze, hze⟩ := HD6.out.zb
    obtain ⟨zc0, zc1, zc2, zc3, zc4, zc5, zc6, zc7, zc8⟩ := hze.all
    have yf0 := (HD6.out.frz 0).1
    have yf1 := (HD6.out.frz 1).1
    have zf0 := (HD6.out.frz 0).2.1
    have zf1 := (HD6.out.frz 1).2.1
    have zf2 := (HD6.out.frz 2).2.1
    have zf3 := (HD6.out.frz 3).2.1
    have zf4 := (HD6.out.frz 4).2.1
    have zf5 := (HD6.out.frz 5).2.1
    have zf6 := (HD6.out.frz 6).2.1
    have zf7 := (HD6.out.frz 7).2.1
    have zf8 := (HD6.out.frz 8).2.1
    have hYZ : ¬ Y = Z := HD6.out.df.2.2.2.1
    have hZY : ¬ Z = Y := fun h => hYZ h.symm
    clear hyb hze
    have K0d := HD6.out.fin1 (12) (0)
    have K1d := (HD6.out.fin (12) (0) (ev01 r p)).2.2
    have K0d := K0d.below (below_drew _)
    have K1d := K1d.below (below_drew _)
    have K0 : (fun (w' : World) => w'.cell? ⟨X, 0, none⟩ = some (.int .i64 (r.k)) ∧ w'.cell? ⟨X, 1, none⟩ = some (.int .i64 (p)) ∧ w'.cell? ⟨X, 2, none⟩ = some (.int .i64 (r.t)) ∧ w'.cell? ⟨X, 3, none⟩ = some (.int .i64 (r.a)) ∧ w'.cell? ⟨X, 4, none⟩ = some (.int .i64 (r.n)) ∧ w'.cell? ⟨X, 5, none⟩ = some (.int .i64 (r.i)) ∧ w'.cell? ⟨X, 6, none⟩ = some (.int .i64 (0)) ∧ w'.cell? ⟨X, 7, none⟩ = some (.string ⟨#[]⟩) ∧ w'.cell? ⟨X, 8, none⟩ = some (.string r.s)) (fillR w6 Y (12) (0)).drew := by
     exact K0d.xb.all
    have K1 : (fun (w' : World) => w'.cell? ⟨X, 0, none⟩ = some (.int .i64 (r.k)) ∧ w'.cell? ⟨X, 1, none⟩ = some (.int .i64 (p)) ∧ w'.cell? ⟨X, 2, none⟩ = some (.int .i64 (r.t)) ∧ w'.cell? ⟨X, 3, none⟩ = some (.int .i64 (r.a)) ∧ w'.cell? ⟨X, 4, none⟩ = some (.int .i64 (r.n)) ∧ w'.cell? ⟨X, 5, none⟩ = some (.int .i64 (r.i)) ∧ w'.cell? ⟨X, 6, none⟩ = some (.int .i64 (0)) ∧ w'.cell? ⟨X, 7, none⟩ = some (.string ⟨#[]⟩) ∧ w'.cell? ⟨X, 8, none⟩ = some (.string r.s)) (fillE (fillR w6 Y (12) (0)) Z (ev01 r p)).drew := by
     exact K1d.xb.all
    unfold fillR at K0
    unfold fillE fillR ev01 at K1
    dsimp only at K0 K1
    have HK0 := Lib.hid K0
    have HK1 := Lib.hid K1
    clear K0 K1 K0d K1d
    go_upto_region 10 with fail
    refine wp_region_held_drew (S := fun w' => w'.cell? ⟨X, 0, none⟩ = some (.int .i64 (r.k)) ∧ w'.cell? ⟨X, 1, none⟩ = some (.int .i64 (p)) ∧ w'.cell? ⟨X, 2, none⟩ = some (.int .i64 (r.t)) ∧ w'.cell? ⟨X, 3, none⟩ = some (.int .i64 (r.a)) ∧ w'.cell? ⟨X, 4, none⟩ = some (.int .i64 (r.n)) ∧ w'.cell? ⟨X, 5, none⟩ = some (.int .i64 (r.i)) ∧ w'.cell? ⟨X, 6, none⟩ = some (.int .i64 (0)) ∧ w'.cell? ⟨X, 7, none⟩ = some (.string ⟨#[]⟩) ∧ w'.cell? ⟨X, 8, none⟩ = some (.string r.s)) (by kernel_rfl) ?_ (fun hHeld => ?_)
    · exact ⟨x0, x1, x2, x3, x4, x5, x6, x7, x8⟩
    refine tk 0 66 ?_
    simp only [lz]
    refine tk 1 67 ?_
    simp only [lz]
    refine wpAnyH_ready (rs := [2]) (by kernel_rfl) (by simp) ?_
    refine AllReadyH.cons rfl (fun K hK => ?_) AllReadyH.nil
    go_simp
    skip
    go_wp2_with fail
    refine hK.out _ _ ?_ (fun hHeld => ?_)
    · exact HK0.out
    clear hK K
    try simp only [Act.put, lg]
    try simp only [lz]
    refine wpAnyH_ready (rs := [3]) (by kernel_rfl) (by simp) ?_
    refine AllReadyH.cons rfl (fun K hK => ?_) AllReadyH.nil
    go_simp
    skip
    go_wp2_with fail
    refine hK.out _ _ ?_ (fun hHeld => ?_)
    · exact HK1.out
    clear hK K
    try simp only [Act.put, lg]
    try simp only [lz]
    refine wpAnyH_done (by kernel_rfl) ?_ _
    clear hHeld x0 x1 x2 x3 x4 x5 x6 x7 x8 yc0 yc1 zc0 zc1 zc2 zc3 zc4 zc5 zc6 zc7 zc8 yf0 yf1 zf0 zf1 zf2 zf3 zf4 zf5 zf6 zf7 zf8 HK0 HK1
    go_wp2_with fail
    obtain ⟨wf, hwf⟩ : ∃ wf, wf = (fillE (fillR w6 Y (12) (0)) Z (ev01 r p)).drew := ⟨_, rfl⟩
    have HF := HD6.out.fin (12) (0) (ev01 r p)
    have HFy : Hid (RpB wf Y (12) (0)) := Lib.hid (by rw [hwf]; exact HF.1.keep (Keeps.of_below (S := fun _ => False) (below_drew _)) (fun h => h))
    have HFz : Hid (EvB wf Z (ev01 r p)) := Lib.hid (by rw [hwf]; exact HF.2.1.keep (Keeps.of_below (S := fun _ => False) (below_drew _)) (fun h => h))
    have HFd := Lib.hid (HF.2.2.below (below_drew _))
    rw [← hwf] at HFd
    clear HF
    unfold fillE fillR ev01 at hwf
    dsimp only at hwf
    rw [← hwf]
    clear hwf
    have ry0 := blk_cell HFy.out 0
    have ry1 := blk_cell HFy.out 1
    obtain ⟨z0, z1, z2, z3, z4, z5, z6, z7, z8⟩ := HFz.out.all
    simp only [lq] at ry0 ry1
    refine bodyPost_ret (v := .tuple #[.agg #[.int .i64 (12), .int .i64 (0)], .agg (ev01 r p).cells]) (by simp [results, Tryz.results32, go_sem, ry0, ry1, z0, z1, z2, z3, z4, z5, z6, z7, z8, EV.cells]) rfl ?_
    rw [HDD.out]
    exact ⟨rfl, _, HFd.out.ld, HFd.out.kp, HFd.out.nw⟩
   rw [if_pos hrm] at HDF
   clear hrm
   obtain ⟨_, _, _, r3, _⟩ := HD6.out.rb.all
   by_cases hn0 : r.n = 0
   · have HDD : Hid (D = ⟨1, 0, ev01 r p, s.b, s.l⟩) := Lib.hid (by rw [HDF.out, if_pos hn0])
     have hnb : (r.n == 0) = true := by simp [hn0]
     clear HDF hn0
     obtain ⟨x0, x1, x2, x3, x4, x5, x6, x7, x8⟩ := HD6.out.xb.all
     unfold ev01 at x0 x1 x2 x3 x4 x5 x6 x7 x8
     dsimp only at x0 x1 x2 x3 x4 x5 x6 x7 x8
     obtain ⟨ya, yb, hyb⟩ := HD6.out.yb
     have yc0 := blk_cell hyb 0
     have yc1 := blk_cell hyb 1
     simp only [lq] at yc0 yc1
     obtain ⟨ze, hze⟩ := HD6.out.zb
     obtain ⟨zc0, zc1, zc2, zc3, zc4, zc5, zc6, zc7, zc8⟩ := hze.all
     have yf0 := (HD6.out.frz 0).1
     have yf1 := (HD6.out.frz 1).1
     have zf0 := (HD6.out.frz 0).2.1
     have zf1 := (HD6.out.frz 1).2.1
     have zf2 := (HD6.out.frz 2).2.1
     have zf3 := (HD6.out.frz 3).2.1
     have zf4 := (HD6.out.frz 4).2.1
     have zf5 := (HD6.out.frz 5).2.1
     have zf6 := (HD6.out.frz 6).2.1
     have zf7 := (HD6.out.frz 7).2.1
     have zf8 := (HD6.out.frz 8).2.1
     have hYZ : ¬ Y = Z := HD6.out.df.2.2.2.1
     have hZY : ¬ Z = Y := fun h => hYZ h.symm
     clear hyb hze
     have K0d := HD6.out.fin1 (1) (0)
     have K1d := (HD6.out.fin (1) (0) (ev01 r p)).2.2
     have K0d := K0d.below (below_drew _)
     have K1d := K1d.below (below_drew _)
     have K0 : (fun (w' : World) => w'.cell? ⟨X, 0, none⟩ = some (.int .i64 (r.k)) ∧ w'.cell? ⟨X, 1, none⟩ = some (.int .i64 (p)) ∧ w'.cell? ⟨X, 2, none⟩ = some (.int .i64 (r.t)) ∧ w'.cell? ⟨X, 3, none⟩ = some (.int .i64 (r.a)) ∧ w'.cell? ⟨X, 4, none⟩ = some (.int .i64 (r.n)) ∧ w'.cell? ⟨X, 5, none⟩ = some (.int .i64 (r.i)) ∧ w'.cell? ⟨X, 6, none⟩ = some (.int .i64 (0)) ∧ w'.cell? ⟨X, 7, none⟩ = some (.string ⟨#[]⟩) ∧ w'.cell? ⟨X, 8, none⟩ = some (.string r.s)) (fillR w6 Y (1) (0)).drew := by
      exact K0d.xb.all
     have K1 : (fun (w' : World) => w'.cell? ⟨X, 0, none⟩ = some (.int .i64 (r.k)) ∧ w'.cell? ⟨X, 1, none⟩ = some (.int .i64 (p)) ∧ w'.cell? ⟨X, 2, none⟩ = some (.int .i64 (r.t)) ∧ w'.cell? ⟨X, 3, none⟩ = some (.int .i64 (r.a)) ∧ w'.cell? ⟨X, 4, none⟩ = some (.int .i64 (r.n)) ∧ w'.cell? ⟨X, 5, none⟩ = some (.int .i64 (r.i)) ∧ w'.cell? ⟨X, 6, none⟩ = some (.int .i64 (0)) ∧ w'.cell? ⟨X, 7, none⟩ = some (.string ⟨#[]⟩) ∧ w'.cell? ⟨X, 8, none⟩ = some (.string r.s)) (fillE (fillR w6 Y (1) (0)) Z (ev01 r p)).drew := by
      exact K1d.xb.all
     unfold fillR at K0
     unfold fillE fillR ev01 at K1
     dsimp only at K0 K1
     have HK0 := Lib.hid K0
     have HK1 := Lib.hid K1
     clear K0 K1 K0d K1d
     go_upto_region 12 with fail
     refine wp_region_held_drew (S := fun w' => w'.cell? ⟨X, 0, none⟩ = some (.int .i64 (r.k)) ∧ w'.cell? ⟨X, 1, none⟩ = some (.int .i64 (p)) ∧ w'.cell? ⟨X, 2, none⟩ = some (.int .i64 (r.t)) ∧ w'.cell? ⟨X, 3, none⟩ = some (.int .i64 (r.a)) ∧ w'.cell? ⟨X, 4, none⟩ = some (.int .i64 (r.n)) ∧ w'.cell? ⟨X, 5, none⟩ = some (.int .i64 (r.i)) ∧ w'.cell? ⟨X, 6, none⟩ = some (.int .i64 (0)) ∧ w'.cell? ⟨X, 7, none⟩ = some (.string ⟨#[]⟩) ∧ w'.cell? ⟨X, 8, none⟩ = some (.string r.s)) (by kernel_rfl) ?_ (fun hHeld => ?_)
     · exact ⟨x0, x1, x2, x3, x4, x5, x6, x7, x8⟩
     refine tk 0 72 ?_
     simp only [lz]
     refine tk 1 73 ?_
     simp only [lz]
     refine wpAnyH_ready (rs := [2]) (by kernel_rfl) (by simp) ?_
     refine AllReadyH.cons rfl (fun K hK => ?_) AllReadyH.nil
     go_simp
     skip
     go_wp2_with fail
     refine hK.out _ _ ?_ (fun hHeld => ?_)
     · exact HK0.out
     clear hK K
     try simp only [Act.put, lg]
     try simp only [lz]
     refine wpAnyH_ready (rs := [3]) (by kernel_rfl) (by simp) ?_
     refine AllReadyH.cons rfl (fun K hK => ?_) AllReadyH.nil
     go_simp
     skip
     go_wp2_with fail
     refine hK.out _ _ ?_ (fun hHeld => ?_)
     · exact HK1.out
     clear hK K
     try simp only [Act.put, lg]
     try simp only [lz]
     refine wpAnyH_done (by kernel_rfl) ?_ _
     clear hHeld x0 x1 x2 x3 x4 x5 x6 x7 x8 yc0 yc1 zc0 zc1 zc2 zc3 zc4 zc5 zc6 zc7 zc8 yf0 yf1 zf0 zf1 zf2 zf3 zf4 zf5 zf6 zf7 zf8 HK0 HK1
     go_wp2_with fail
     obtain ⟨wf, hwf⟩ : ∃ wf, wf = (fillE (fillR w6 Y (1) (0)) Z (ev01 r p)).drew := ⟨_, rfl⟩
     have HF := HD6.out.fin (1) (0) (ev01 r p)
     have HFy : Hid (RpB wf Y (1) (0)) := Lib.hid (by rw [hwf]; exact HF.1.keep (Keeps.of_below (S := fun _ => False) (below_drew _)) (fun h => h))
     have HFz : Hid (EvB wf Z (ev01 r p)) := Lib.hid (by rw [hwf]; exact HF.2.1.keep (Keeps.of_below (S := fun _ => False) (below_drew _)) (fun h => h))
     have HFd := Lib.hid (HF.2.2.below (below_drew _))
     rw [← hwf] at HFd
     clear HF
     unfold fillE fillR ev01 at hwf
     dsimp only at hwf
     rw [← hwf]
     clear hwf
     have ry0 := blk_cell HFy.out 0
     have ry1 := blk_cell HFy.out 1
     obtain ⟨z0, z1, z2, z3, z4, z5, z6, z7, z8⟩ := HFz.out.all
     simp only [lq] at ry0 ry1
     refine bodyPost_ret (v := .tuple #[.agg #[.int .i64 (1), .int .i64 (0)], .agg (ev01 r p).cells]) (by simp [results, Tryz.results32, go_sem, ry0, ry1, z0, z1, z2, z3, z4, z5, z6, z7, z8, EV.cells]) rfl ?_
     rw [HDD.out]
     exact ⟨rfl, _, HFd.out.ld, HFd.out.kp, HFd.out.nw⟩
   have HDD : Hid (D = ⟨moveE n m s.b p r.t r.a r.n, 0, ev01 r p, moveN n m s.b p r.t r.a r.n, s.l⟩) := Lib.hid (by rw [HDF.out, if_neg hn0])
   have hnb : (r.n == 0) = false := by simp [hn0]
   clear HDF hn0
   have HDd := Lib.hid (HD6.out.below (below_drew _))
   obtain ⟨r0, r1, r2, r3, r4, r5, r6, r7⟩ := HD6.out.rb.all
   obtain ⟨x0, x1, x2, x3, x4, x5, x6, x7, x8⟩ := HD6.out.xb.all
   unfold ev01 at x0 x1 x2 x3 x4 x5 x6 x7 x8
   dsimp only at x0 x1 x2 x3 x4 x5 x6 x7 x8
   go_upto_region 13 with fail
   refine wp_region_held_drew (S := fun w' => w'.cell? ⟨R, 1, none⟩ = some (.int .i64 r.t) ∧ w'.cell? ⟨R, 2, none⟩ = some (.int .i64 r.a) ∧ w'.cell? ⟨R, 3, none⟩ = some (.int .i64 r.n) ∧ w'.cell? ⟨X, 0, none⟩ = some (.int .i64 (r.k)) ∧ w'.cell? ⟨X, 1, none⟩ = some (.int .i64 (p)) ∧ w'.cell? ⟨X, 2, none⟩ = some (.int .i64 (r.t)) ∧ w'.cell? ⟨X, 3, none⟩ = some (.int .i64 (r.a)) ∧ w'.cell? ⟨X, 4, none⟩ = some (.int .i64 (r.n)) ∧ w'.cell? ⟨X, 5, none⟩ = some (.int .i64 (r.i)) ∧ w'.cell? ⟨X, 6, none⟩ = some (.int .i64 (0)) ∧ w'.cell? ⟨X, 7, none⟩ = some (.string ⟨#[]⟩) ∧ w'.cell? ⟨X, 8, none⟩ = some (.string r.s)) (by kernel_rfl) ?_ (fun hHeld => ?_)
   · exact ⟨r1, r2, r3, x0, x1, x2, x3, x4, x5, x6, x7, x8⟩
   refine tk 0 74 ?_
   simp only [lz]
   refine tk 1 75 ?_
   simp only [lz]
   refine tk 2 76 ?_
   simp only [lz]
   refine tk 3 77 ?_
   simp only [lz]
   refine tk 4 78 ?_
   simp only [lz]
   refine tk 5 79 ?_
   simp only [lz]
   refine tk 6 80 ?_
   simp only [lz]
   refine tk 7 81 ?_
   simp only [lz]
   refine tk 10 84 ?_
   simp only [lz]
   refine wpAnyH_ready (rs := [8]) (by kernel_rfl) (by simp) ?_
   refine AllReadyH.cons rfl (fun K hK => ?_) AllReadyH.nil
   go_simp
   refine (HDd.out.ld.eb.move p r.t r.a r.n).mono ?_
   rintro e w7 ⟨rfl, hp⟩
   obtain ⟨Sb7, hd7⟩ := HDd.out.book hp
   have HD7 := Lib.hid hd7
   clear hp hd7 x0 x1 x2 x3 x4 x5 x6 x7 x8 r0 r1 r2 r3 r4 r5 r6 r7
   obtain ⟨r0, r1, r2, r3, r4, r5, r6, r7⟩ := HD7.out.rb.all
   obtain ⟨x0, x1, x2, x3, x4, x5, x6, x7, x8⟩ := HD7.out.xb.all
   unfold ev01 at x0 x1 x2 x3 x4 x5 x6 x7 x8
   dsimp only at x0 x1 x2 x3 x4 x5 x6 x7 x8
   obtain ⟨ya, yb, hyb⟩ := HD7.out.yb
   have yc0 := blk_cell hyb 0
   have yc1 := blk_cell hyb 1
   simp only [lq] at yc0 yc1
   obtain ⟨ze, hze⟩ := HD7.out.zb
   obtain ⟨zc0, zc1, zc2, zc3, zc4, zc5, zc6, zc7, zc8⟩ := hze.all
   have yf0 := (HD7.out.frz 0).1
   have yf1 := (HD7.out.frz 1).1
   have zf0 := (HD7.out.frz 0).2.1
   have zf1 := (HD7.out.frz 1).2.1
   have zf2 := (HD7.out.frz 2).2.1
   have zf3 := (HD7.out.frz 3).2.1
   have zf4 := (HD7.out.frz 4).2.1
   have zf5 := (HD7.out.frz 5).2.1
   have zf6 := (HD7.out.frz 6).2.1
   have zf7 := (HD7.out.frz 7).2.1
   have zf8 := (HD7.out.frz 8).2.1
   have hYZ : ¬ Y = Z := HD7.out.df.2.2.2.1
   have hZY : ¬ Z = Y := fun h => hYZ h.symm
   clear hyb hze
   have K0d := HD7.out.fin1 (moveE n m s.b p r.t r.a r.n) (0)
   have K1d := (HD7.out.fin (moveE n m s.b p r.t r.a r.n) (0) (ev01 r p)).2.2
   have K0 : (fun (w' : World) => w'.cell? ⟨R, 1, none⟩ = some (.int .i64 r.t) ∧ w'.cell? ⟨R, 2, none⟩ = some (.int .i64 r.a) ∧ w'.cell? ⟨R, 3, none⟩ = some (.int .i64 r.n) ∧ w'.cell? ⟨X, 0, none⟩ = some (.int .i64 (r.k)) ∧ w'.cell? ⟨X, 1, none⟩ = some (.int .i64 (p)) ∧ w'.cell? ⟨X, 2, none⟩ = some (.int .i64 (r.t)) ∧ w'.cell? ⟨X, 3, none⟩ = some (.int .i64 (r.a)) ∧ w'.cell? ⟨X, 4, none⟩ = some (.int .i64 (r.n)) ∧ w'.cell? ⟨X, 5, none⟩ = some (.int .i64 (r.i)) ∧ w'.cell? ⟨X, 6, none⟩ = some (.int .i64 (0)) ∧ w'.cell? ⟨X, 7, none⟩ = some (.string ⟨#[]⟩) ∧ w'.cell? ⟨X, 8, none⟩ = some (.string r.s)) (fillR w7 Y (moveE n m s.b p r.t r.a r.n) (0)) := by
    exact ⟨K0d.rb.all.2.1, K0d.rb.all.2.2.1, K0d.rb.all.2.2.2.1, K0d.xb.all⟩
   have K1 : (fun (w' : World) => w'.cell? ⟨R, 1, none⟩ = some (.int .i64 r.t) ∧ w'.cell? ⟨R, 2, none⟩ = some (.int .i64 r.a) ∧ w'.cell? ⟨R, 3, none⟩ = some (.int .i64 r.n) ∧ w'.cell? ⟨X, 0, none⟩ = some (.int .i64 (r.k)) ∧ w'.cell? ⟨X, 1, none⟩ = some (.int .i64 (p)) ∧ w'.cell? ⟨X, 2, none⟩ = some (.int .i64 (r.t)) ∧ w'.cell? ⟨X, 3, none⟩ = some (.int .i64 (r.a)) ∧ w'.cell? ⟨X, 4, none⟩ = some (.int .i64 (r.n)) ∧ w'.cell? ⟨X, 5, none⟩ = some (.int .i64 (r.i)) ∧ w'.cell? ⟨X, 6, none⟩ = some (.int .i64 (0)) ∧ w'.cell? ⟨X, 7, none⟩ = some (.string ⟨#[]⟩) ∧ w'.cell? ⟨X, 8, none⟩ = some (.string r.s)) (fillE (fillR w7 Y (moveE n m s.b p r.t r.a r.n) (0)) Z (ev01 r p)) := by
    exact ⟨K1d.rb.all.2.1, K1d.rb.all.2.2.1, K1d.rb.all.2.2.2.1, K1d.xb.all⟩
   unfold fillR at K0
   unfold fillE fillR ev01 at K1
   dsimp only at K0 K1
   have HK0 := Lib.hid K0
   have HK1 := Lib.hid K1
   clear K0 K1 K0d K1d
   dsimp only
   go_wp2_with fail
   refine hK.out _ _ ?_ (fun hHeld => ?_)
   · exact ⟨r1, r2, r3, x0, x1, x2, x3, x4, x5, x6, x7, x8⟩
   clear hK K
   try simp only [Act.put, lg]
   try simp only [lz]
   refine tk 9 83 ?_
   simp only [lz]
   refine wpAnyH_ready (rs := [11]) (by kernel_rfl) (by simp) ?_
   refine AllReadyH.cons rfl (fun K hK => ?_) AllReadyH.nil
   go_simp
   skip
   go_wp2_with fail
   refine hK.out _ _ ?_ (fun hHeld => ?_)
   · exact HK0.out
   clear hK K
   try simp only [Act.put, lg]
   try simp only [lz]
   refine wpAnyH_ready (rs := [12]) (by kernel_rfl) (by simp) ?_
   refine AllReadyH.cons rfl (fun K hK => ?_) AllReadyH.nil
   go_simp
   skip
   go_wp2_with fail
   refine hK.out _ _ ?_ (fun hHeld => ?_)
   · exact HK1.out
   clear hK K
   try simp only [Act.put, lg]
   try simp only [lz]
   refine wpAnyH_done (by kernel_rfl) ?_ _
   clear r0 r1 r2 r3 r4 r5 r6 r7
   clear hHeld x0 x1 x2 x3 x4 x5 x6 x7 x8 yc0 yc1 zc0 zc1 zc2 zc3 zc4 zc5 zc6 zc7 zc8 yf0 yf1 zf0 zf1 zf2 zf3 zf4 zf5 zf6 zf7 zf8 HK0 HK1
   go_wp2_with fail
   obtain ⟨wf, hwf⟩ : ∃ wf, wf = (fillE (fillR w7 Y (moveE n m s.b p r.t r.a r.n) (0)) Z (ev01 r p)) := ⟨_, rfl⟩
   have HF := HD7.out.fin (moveE n m s.b p r.t r.a r.n) (0) (ev01 r p)
   have HFy : Hid (RpB wf Y (moveE n m s.b p r.t r.a r.n) (0)) := Lib.hid (by rw [hwf]; exact HF.1)
   have HFz : Hid (EvB wf Z (ev01 r p)) := Lib.hid (by rw [hwf]; exact HF.2.1)
   have HFd := Lib.hid (HF.2.2)
   rw [← hwf] at HFd
   clear HF
   unfold fillE fillR ev01 at hwf
   dsimp only at hwf
   rw [← hwf]
   clear hwf
   have ry0 := blk_cell HFy.out 0
   have ry1 := blk_cell HFy.out 1
   obtain ⟨z0, z1, z2, z3, z4, z5, z6, z7, z8⟩ := HFz.out.all
   simp only [lq] at ry0 ry1
   refine bodyPost_ret (v := .tuple #[.agg #[.int .i64 (moveE n m s.b p r.t r.a r.n), .int .i64 (0)], .agg (ev01 r p).cells]) (by simp [results, Tryz.results32, go_sem, ry0, ry1, z0, z1, z2, z3, z4, z5, z6, z7, z8, EV.cells]) rfl ?_
   rw [HDD.out]
   exact ⟨rfl, _, HFd.out.ld, HFd.out.kp, HFd.out.nw⟩
 rw [if_neg hk1] at HDF
 have kb1 : (r.k == 1) = false := by simp [hk1]
 clear hk1
 by_cases hk2 : r.k = 2
 · rw [if_pos hk2] at HDF
   have kb2 : (r.k == 2) = true := by simp [hk2]
   clear hk2
   go_wp2_with fail
   refine (ledger_room HD4.out.ld HI.out 2 (by omega) (by omega)).mono ?_
   rintro e w5 ⟨rfl, hb5⟩
   have HD5 := Lib.hid (HD4.out.below hb5)
   clear hb5 HD4 r0 r1 r2 r3 r4 r5 r6 r7
   cases hrm : room E s 2
   case false =>
    have HDD : Hid (D = ⟨12, 0, ev00 r, s.b, s.l⟩) := Lib.hid (by rw [HDF.out, if_neg (by rw [hrm]; decide)])
    clear HDF hrm
    obtain ⟨x0, x1, x2, x3, x4, x5, x6, x7, x8⟩ := HD5.out.xb.all
    unfold ev00 at x0 x1 x2 x3 x4 x5 x6 x7 x8
    dsimp only at x0 x1 x2 x3 x4 x5 x6 x7 x8
    obtain ⟨ya, yb, hyb⟩ := HD5.out.yb
    have yc0 := blk_cell hyb 0
    have yc1 := blk_cell hyb 1
    simp only [lq] at yc0 yc1
    obtain ⟨ze, hze⟩ := HD5.out.zb
    obtain ⟨zc0, zc1, zc2, zc3, zc4, zc5, zc6, zc7, zc8⟩ := hze.all
    have yf0 := (HD5.out.frz 0).1
    have yf1 := (HD5.out.frz 1).1
    have zf0 := (HD5.out.frz 0).2.1
    have zf1 := (HD5.out.frz 1).2.1
    have zf2 := (HD5.out.frz 2).2.1
    have zf3 := (HD5.out.frz 3).2.1
    have zf4 := (HD5.out.frz 4).2.1
    have zf5 := (HD5.out.frz 5).2.1
    have zf6 := (HD5.out.frz 6).2.1
    have zf7 := (HD5.out.frz 7).2.1
    have zf8 := (HD5.out.frz 8).2.1
    have hYZ : ¬ Y = Z := HD5.out.df.2.2.2.1
    have hZY : ¬ Z = Y := fun h => hYZ h.symm
    clear hyb hze
    have K0d := HD5.out.fin1 (12) (0)
    have K1d := (HD5.out.fin (12) (0) (ev00 r)).2.2
    have K0d := K0d.below (below_drew _)
    have K1d := K1d.below (below_drew _)
    have K0 : (fun (w' : World) => w'.cell? ⟨X, 0, none⟩ = some (.int .i64 (r.k)) ∧ w'.cell? ⟨X, 1, none⟩ = some (.int .i64 (0)) ∧ w'.cell? ⟨X, 2, none⟩ = some (.int .i64 (0)) ∧ w'.cell? ⟨X, 3, none⟩ = some (.int .i64 (0)) ∧ w'.cell? ⟨X, 4, none⟩ = some (.int .i64 (0)) ∧ w'.cell? ⟨X, 5, none⟩ = some (.int .i64 (r.i)) ∧ w'.cell? ⟨X, 6, none⟩ = some (.int .i64 (0)) ∧ w'.cell? ⟨X, 7, none⟩ = some (.string ⟨#[]⟩) ∧ w'.cell? ⟨X, 8, none⟩ = some (.string r.s)) (fillR w5 Y (12) (0)).drew := by
     exact K0d.xb.all
    have K1 : (fun (w' : World) => w'.cell? ⟨X, 0, none⟩ = some (.int .i64 (r.k)) ∧ w'.cell? ⟨X, 1, none⟩ = some (.int .i64 (0)) ∧ w'.cell? ⟨X, 2, none⟩ = some (.int .i64 (0)) ∧ w'.cell? ⟨X, 3, none⟩ = some (.int .i64 (0)) ∧ w'.cell? ⟨X, 4, none⟩ = some (.int .i64 (0)) ∧ w'.cell? ⟨X, 5, none⟩ = some (.int .i64 (r.i)) ∧ w'.cell? ⟨X, 6, none⟩ = some (.int .i64 (0)) ∧ w'.cell? ⟨X, 7, none⟩ = some (.string ⟨#[]⟩) ∧ w'.cell? ⟨X, 8, none⟩ = some (.string r.s)) (fillE (fillR w5 Y (12) (0)) Z (ev00 r)).drew := by
     exact K1d.xb.all
    unfold fillR at K0
    unfold fillE fillR ev00 at K1
    dsimp only at K0 K1
    have HK0 := Lib.hid K0
    have HK1 := Lib.hid K1
    clear K0 K1 K0d K1d
    go_upto_region 16 with fail
    refine wp_region_held_drew (S := fun w' => w'.cell? ⟨X, 0, none⟩ = some (.int .i64 (r.k)) ∧ w'.cell? ⟨X, 1, none⟩ = some (.int .i64 (0)) ∧ w'.cell? ⟨X, 2, none⟩ = some (.int .i64 (0)) ∧ w'.cell? ⟨X, 3, none⟩ = some (.int .i64 (0)) ∧ w'.cell? ⟨X, 4, none⟩ = some (.int .i64 (0)) ∧ w'.cell? ⟨X, 5, none⟩ = some (.int .i64 (r.i)) ∧ w'.cell? ⟨X, 6, none⟩ = some (.int .i64 (0)) ∧ w'.cell? ⟨X, 7, none⟩ = some (.string ⟨#[]⟩) ∧ w'.cell? ⟨X, 8, none⟩ = some (.string r.s)) (by kernel_rfl) ?_ (fun hHeld => ?_)
    · exact ⟨x0, x1, x2, x3, x4, x5, x6, x7, x8⟩
    refine tk 0 90 ?_
    simp only [lz]
    refine tk 1 91 ?_
    simp only [lz]
    refine wpAnyH_ready (rs := [2]) (by kernel_rfl) (by simp) ?_
    refine AllReadyH.cons rfl (fun K hK => ?_) AllReadyH.nil
    go_simp
    skip
    go_wp2_with fail
    refine hK.out _ _ ?_ (fun hHeld => ?_)
    · exact HK0.out
    clear hK K
    try simp only [Act.put, lg]
    try simp only [lz]
    refine wpAnyH_ready (rs := [3]) (by kernel_rfl) (by simp) ?_
    refine AllReadyH.cons rfl (fun K hK => ?_) AllReadyH.nil
    go_simp
    skip
    go_wp2_with fail
    refine hK.out _ _ ?_ (fun hHeld => ?_)
    · exact HK1.out
    clear hK K
    try simp only [Act.put, lg]
    try simp only [lz]
    refine wpAnyH_done (by kernel_rfl) ?_ _
    clear hHeld x0 x1 x2 x3 x4 x5 x6 x7 x8 yc0 yc1 zc0 zc1 zc2 zc3 zc4 zc5 zc6 zc7 zc8 yf0 yf1 zf0 zf1 zf2 zf3 zf4 zf5 zf6 zf7 zf8 HK0 HK1
    go_wp2_with fail
    obtain ⟨wf, hwf⟩ : ∃ wf, wf = (fillE (fillR w5 Y (12) (0)) Z (ev00 r)).drew := ⟨_, rfl⟩
    have HF := HD5.out.fin (12) (0) (ev00 r)
    have HFy : Hid (RpB wf Y (12) (0)) := Lib.hid (by rw [hwf]; exact HF.1.keep (Keeps.of_below (S := fun _ => False) (below_drew _)) (fun h => h))
    have HFz : Hid (EvB wf Z (ev00 r)) := Lib.hid (by rw [hwf]; exact HF.2.1.keep (Keeps.of_below (S := fun _ => False) (below_drew _)) (fun h => h))
    have HFd := Lib.hid (HF.2.2.below (below_drew _))
    rw [← hwf] at HFd
    clear HF
    unfold fillE fillR ev00 at hwf
    dsimp only at hwf
    rw [← hwf]
    clear hwf
    have ry0 := blk_cell HFy.out 0
    have ry1 := blk_cell HFy.out 1
    obtain ⟨z0, z1, z2, z3, z4, z5, z6, z7, z8⟩ := HFz.out.all
    simp only [lq] at ry0 ry1
    refine bodyPost_ret (v := .tuple #[.agg #[.int .i64 (12), .int .i64 (0)], .agg (ev00 r).cells]) (by simp [results, Tryz.results32, go_sem, ry0, ry1, z0, z1, z2, z3, z4, z5, z6, z7, z8, EV.cells]) rfl ?_
    rw [HDD.out]
    exact ⟨rfl, _, HFd.out.ld, HFd.out.kp, HFd.out.nw⟩
   rw [if_pos hrm] at HDF
   have HDD := HDF
   clear HDF hrm
   have HLL : Hid (s.l.length < 100000) := Lib.hid (by have := HI.out.len; omega)
   obtain ⟨_, a2, a3, _⟩ := HD5.out.ld.cells
   obtain ⟨_, r1, r2, r3, _, r5, r6, _⟩ := HD5.out.rb.all
   have HDd := Lib.hid (HD5.out.below (below_drew _))
   go_upto_region 17 with fail
   refine wp_region_held_drew (S := fun w' => w'.cell? ⟨A, 2, none⟩ = some (.pointer (some ⟨B, 0, none⟩)) ∧ w'.cell? ⟨A, 3, none⟩ = some (.int .i64 s.ck) ∧ w'.cell? ⟨R, 1, none⟩ = some (.int .i64 r.t) ∧ w'.cell? ⟨R, 2, none⟩ = some (.int .i64 r.a) ∧ w'.cell? ⟨R, 3, none⟩ = some (.int .i64 r.n) ∧ w'.cell? ⟨R, 5, none⟩ = some (.int .i64 r.d) ∧ w'.cell? ⟨R, 6, none⟩ = some (.string r.h)) (by kernel_rfl) ?_ (fun hHeld => ?_)
   · exact ⟨a2, a3, r1, r2, r3, r5, r6⟩
   refine tk 0 93 ?_
   simp only [lz]
   refine tk 1 94 ?_
   simp only [lz]
   refine tk 2 95 ?_
   simp only [lz]
   refine tk 3 96 ?_
   simp only [lz]
   refine tk 4 97 ?_
   simp only [lz]
   refine tk 5 98 ?_
   simp only [lz]
   refine tk 6 99 ?_
   simp only [lz]
   refine tk 7 100 ?_
   simp only [lz]
   refine tk 8 101 ?_
   simp only [lz]
   refine tk 9 102 ?_
   simp only [lz]
   refine tk 10 103 ?_
   simp only [lz]
   refine tk 11 104 ?_
   simp only [lz]
   refine tk 12 105 ?_
   simp only [lz]
   refine tk 13 106 ?_
   simp only [lz]
   refine tk 14 107 ?_
   simp only [lz]
   refine tk 15 108 ?_
   simp only [lz]
   refine tk 16 109 ?_
   simp only [lz]
   refine tk 17 110 ?_
   simp only [lz]
   refine tk 18 111 ?_
   simp only [lz]
   refine wpAnyH_ready (rs := [19]) (by kernel_rfl) (by simp) ?_
   refine AllReadyH.cons rfl (fun K hK => ?_) AllReadyH.nil
   go_simp
   refine (HDd.out.ld.eb.lock HLL.out p r.t r.a r.n r.h r.d s.ck).mono ?_
   rintro e w6 ⟨rfl, hp⟩
   obtain ⟨Sb6, hd6⟩ := HDd.out.book hp
   have HD6 := Lib.hid hd6
   clear hp hd6 a2 a3 r1 r2 r3 r5 r6 HD5 HDd
   generalize lockE n m s.b p r.t r.a r.n r.h r.d s.ck = ce at *
   generalize lockI n m s.b s.l p r.t r.a r.n r.h r.d s.ck = ci at *
   generalize lockB n m s.b p r.t r.a r.n r.h r.d s.ck = bN at *
   generalize lockL n m s.b s.l p r.t r.a r.n r.h r.d s.ck = lN at *
   obtain ⟨_, a2, a3, _⟩ := HD6.out.ld.cells
   obtain ⟨_, r1, r2, r3, _, r5, r6, _⟩ := HD6.out.rb.all
   dsimp only
   go_wp2_with fail
   refine hK.out _ _ ?_ (fun hHeld => ?_)
   · exact ⟨a2, a3, r1, r2, r3, r5, r6⟩
   clear hK K
   try simp only [Act.put, lg]
   try simp only [lz]
   refine tk 20 92 ?_
   simp only [lz]
   refine tk 21 113 ?_
   simp only [lz]
   refine tk 22 114 ?_
   simp only [lz]
   refine tk 23 12 ?_
   simp only [lz]
   refine tk 24 13 ?_
   simp only [lz]
   refine wpAnyH_done (by kernel_rfl) ?_ _
   clear hHeld a2 a3
   have HRX : Hid (RqB w6 R r) := Lib.hid HD6.out.rb
   have HXR : Hid (¬ R = X) := Lib.hid HD6.out.df.2.2.1
   have fx := fun j => (HD6.out.frz j).2.2
   have xf1 := fx 1
   have xf2 := fx 2
   have xf3 := fx 3
   have xf4 := fx 4
   have xf5 := fx 5
   have xf6 := fx 6
   have xf7 := fx 7
   clear fx
   obtain ⟨_, g1, g2, g3, g4, g5, g6, g7, _⟩ := HD6.out.xb.all
   unfold ev00 at g1 g2 g3 g4 g5 g6 g7
   dsimp only at g1 g2 g3 g4 g5 g6 g7
   go_upto_region 18 with fail
   refine wp_region_held_drew (S := fun w' => w'.cell? ⟨R, 1, none⟩ = some (.int .i64 r.t) ∧ w'.cell? ⟨R, 2, none⟩ = some (.int .i64 r.a) ∧ w'.cell? ⟨R, 3, none⟩ = some (.int .i64 r.n) ∧ w'.cell? ⟨R, 5, none⟩ = some (.int .i64 r.d) ∧ w'.cell? ⟨R, 6, none⟩ = some (.string r.h)) (by kernel_rfl) ?_ (fun hHeld => ?_)
   · exact ⟨r1, r2, r3, r5, r6⟩
   refine tk 0 115 ?_
   simp only [lz]
   refine tk 1 116 ?_
   simp only [lz]
   refine tk 2 117 ?_
   simp only [lz]
   refine tk 3 118 ?_
   simp only [lz]
   refine tk 4 119 ?_
   simp only [lz]
   refine tk 5 120 ?_
   simp only [lz]
   refine tk 6 121 ?_
   simp only [lz]
   refine tk 7 122 ?_
   simp only [lz]
   refine tk 8 123 ?_
   simp only [lz]
   refine tk 9 124 ?_
   simp only [lz]
   refine tk 10 125 ?_
   simp only [lz]
   refine tk 11 126 ?_
   simp only [lz]
   refine tk 12 127 ?_
   simp only [lz]
   refine wpAnyH_ready (rs := [13]) (by kernel_rfl) (by simp) ?_
   refine AllReadyH.cons rfl (fun K hK => ?_) AllReadyH.nil
   go_simp
   skip
   go_wp2_with fail
   refine hK.out _ _ ?_ (fun hHeld => ?_)
   · exact (HRX.out.keep ((Keeps.refl (fun k => k = X) w6).setCell (p := ⟨X, 1, none⟩) (Or.inl rfl) _).drew HXR.out).five
   clear hK K
   try simp only [Act.put, lg]
   try simp only [lz]
   refine tk 14 128 ?_
   simp only [lz]
   refine wpAnyH_ready (rs := [15]) (by kernel_rfl) (by simp) ?_
   refine AllReadyH.cons rfl (fun K hK => ?_) AllReadyH.nil
   go_simp
   skip
   go_wp2_with fail
   refine hK.out _ _ ?_ (fun hHeld => ?_)
   · exact (HRX.out.keep (((Keeps.refl (fun k => k = X) w6).setCell (p := ⟨X, 1, none⟩) (Or.inl rfl) _).setCell (p := ⟨X, 2, none⟩) (Or.inl rfl) _).drew HXR.out).five
   clear hK K
   try simp only [Act.put, lg]
   try simp only [lz]
   refine tk 16 129 ?_
   simp only [lz]
   refine wpAnyH_ready (rs := [17]) (by kernel_rfl) (by simp) ?_
   refine AllReadyH.cons rfl (fun K hK => ?_) AllReadyH.nil
   go_simp
   skip
   go_wp2_with fail
   refine hK.out _ _ ?_ (fun hHeld => ?_)
   · exact (HRX.out.keep ((((Keeps.refl (fun k => k = X) w6).setCell (p := ⟨X, 1, none⟩) (Or.inl rfl) _).setCell (p := ⟨X, 2, none⟩) (Or.inl rfl) _).setCell (p := ⟨X, 3, none⟩) (Or.inl rfl) _).drew HXR.out).five
   clear hK K
   try simp only [Act.put, lg]
   try simp only [lz]
   refine tk 18 130 ?_
   simp only [lz]
   refine wpAnyH_ready (rs := [19]) (by kernel_rfl) (by simp) ?_
   refine AllReadyH.cons rfl (fun K hK => ?_) AllReadyH.nil
   go_simp
   skip
   go_wp2_with fail
   refine hK.out _ _ ?_ (fun hHeld => ?_)
   · exact (HRX.out.keep (((((Keeps.refl (fun k => k = X) w6).setCell (p := ⟨X, 1, none⟩) (Or.inl rfl) _).setCell (p := ⟨X, 2, none⟩) (Or.inl rfl) _).setCell (p := ⟨X, 3, none⟩) (Or.inl rfl) _).setCell (p := ⟨X, 4, none⟩) (Or.inl rfl) _).drew HXR.out).five
   clear hK K
   try simp only [Act.put, lg]
   try simp only [lz]
   refine tk 20 131 ?_
   simp only [lz]
   refine wpAnyH_ready (rs := [21]) (by kernel_rfl) (by simp) ?_
   refine AllReadyH.cons rfl (fun K hK => ?_) AllReadyH.nil
   go_simp
   skip
   go_wp2_with fail
   refine hK.out _ _ ?_ (fun hHeld => ?_)
   · exact (HRX.out.keep ((((((Keeps.refl (fun k => k = X) w6).setCell (p := ⟨X, 1, none⟩) (Or.inl rfl) _).setCell (p := ⟨X, 2, none⟩) (Or.inl rfl) _).setCell (p := ⟨X, 3, none⟩) (Or.inl rfl) _).setCell (p := ⟨X, 4, none⟩) (Or.inl rfl) _).setCell (p := ⟨X, 5, none⟩) (Or.inl rfl) _).drew HXR.out).five
   clear hK K
   try simp only [Act.put, lg]
   try simp only [lz]
   refine tk 22 132 ?_
   simp only [lz]
   refine wpAnyH_ready (rs := [23]) (by kernel_rfl) (by simp) ?_
   refine AllReadyH.cons rfl (fun K hK => ?_) AllReadyH.nil
   go_simp
   skip
   go_wp2_with fail
   refine hK.out _ _ ?_ (fun hHeld => ?_)
   · exact (HRX.out.keep (((((((Keeps.refl (fun k => k = X) w6).setCell (p := ⟨X, 1, none⟩) (Or.inl rfl) _).setCell (p := ⟨X, 2, none⟩) (Or.inl rfl) _).setCell (p := ⟨X, 3, none⟩) (Or.inl rfl) _).setCell (p := ⟨X, 4, none⟩) (Or.inl rfl) _).setCell (p := ⟨X, 5, none⟩) (Or.inl rfl) _).setCell (p := ⟨X, 7, none⟩) (Or.inl rfl) _).drew HXR.out).five
   clear hK K
   try simp only [Act.put, lg]
   try simp only [lz]
   refine tk 24 133 ?_
   simp only [lz]
   refine wpAnyH_ready (rs := [25]) (by kernel_rfl) (by simp) ?_
   refine AllReadyH.cons rfl (fun K hK => ?_) AllReadyH.nil
   go_simp
   skip
   go_wp2_with fail
   refine hK.out _ _ ?_ (fun hHeld => ?_)
   · exact (HRX.out.keep ((((((((Keeps.refl (fun k => k = X) w6).setCell (p := ⟨X, 1, none⟩) (Or.inl rfl) _).setCell (p := ⟨X, 2, none⟩) (Or.inl rfl) _).setCell (p := ⟨X, 3, none⟩) (Or.inl rfl) _).setCell (p := ⟨X, 4, none⟩) (Or.inl rfl) _).setCell (p := ⟨X, 5, none⟩) (Or.inl rfl) _).setCell (p := ⟨X, 7, none⟩) (Or.inl rfl) _).setCell (p := ⟨X, 6, none⟩) (Or.inl rfl) _).drew HXR.out).five
   clear hK K
   try simp only [Act.put, lg]
   try simp only [lz]
   refine wpAnyH_done (by kernel_rfl) ?_ _
   clear hHeld r1 r2 r3 r5 r6 xf1 xf2 xf3 xf4 xf5 xf6 xf7 g1 g2 g3 g4 g5 g6 g7
   obtain ⟨w7, hw7⟩ : ∃ w7, w7 = (fill18 w6 X r p ci).drew := ⟨_, rfl⟩
   have HX7 : Hid (EvB w7 X (ev02 r p ci)) := Lib.hid (by rw [hw7]; exact fill18_box HD6.out.xb p ci)
   have HD7 := Lib.hid (HD6.out.setX (by rw [hw7]; exact fill18_keeps w6 X r p ci) HX7.out)
   unfold fill18 at hw7
   rw [← hw7]
   clear hw7 HRX HXR HX7 HD6
   obtain ⟨x0, x1, x2, x3, x4, x5, x6, x7, x8⟩ := HD7.out.xb.all
   unfold ev02 at x0 x1 x2 x3 x4 x5 x6 x7 x8
   dsimp only at x0 x1 x2 x3 x4 x5 x6 x7 x8
   obtain ⟨ya, yb, hyb⟩ := HD7.out.yb
   have yc0 := blk_cell hyb 0
   have yc1 := blk_cell hyb 1
   simp only [lq] at yc0 yc1
   obtain ⟨ze, hze⟩ := HD7.out.zb
   obtain ⟨zc0, zc1, zc2, zc3, zc4, zc5, zc6, zc7, zc8⟩ := hze.all
   have yf0 := (HD7.out.frz 0).1
   have yf1 := (HD7.out.frz 1).1
   have zf0 := (HD7.out.frz 0).2.1
   have zf1 := (HD7.out.frz 1).2.1
   have zf2 := (HD7.out.frz 2).2.1
   have zf3 := (HD7.out.frz 3).2.1
   have zf4 := (HD7.out.frz 4).2.1
   have zf5 := (HD7.out.frz 5).2.1
   have zf6 := (HD7.out.frz 6).2.1
   have zf7 := (HD7.out.frz 7).2.1
   have zf8 := (HD7.out.frz 8).2.1
   have hYZ : ¬ Y = Z := HD7.out.df.2.2.2.1
   have hZY : ¬ Z = Y := fun h => hYZ h.symm
   clear hyb hze
   have K0d := HD7.out.fin1 (ce) (ci)
   have K1d := (HD7.out.fin (ce) (ci) (ev02 r p ci)).2.2
   have K0d := K0d.below (below_drew _)
   have K1d := K1d.below (below_drew _)
   have K0 : (fun (w' : World) => w'.cell? ⟨X, 0, none⟩ = some (.int .i64 (r.k)) ∧ w'.cell? ⟨X, 1, none⟩ = some (.int .i64 (p)) ∧ w'.cell? ⟨X, 2, none⟩ = some (.int .i64 (r.t)) ∧ w'.cell? ⟨X, 3, none⟩ = some (.int .i64 (r.a)) ∧ w'.cell? ⟨X, 4, none⟩ = some (.int .i64 (r.n)) ∧ w'.cell? ⟨X, 5, none⟩ = some (.int .i64 (ci)) ∧ w'.cell? ⟨X, 6, none⟩ = some (.int .i64 (r.d)) ∧ w'.cell? ⟨X, 7, none⟩ = some (.string r.h) ∧ w'.cell? ⟨X, 8, none⟩ = some (.string r.s)) (fillR w7 Y (ce) (ci)).drew := by
    exact K0d.xb.all
   have K1 : (fun (w' : World) => w'.cell? ⟨X, 0, none⟩ = some (.int .i64 (r.k)) ∧ w'.cell? ⟨X, 1, none⟩ = some (.int .i64 (p)) ∧ w'.cell? ⟨X, 2, none⟩ = some (.int .i64 (r.t)) ∧ w'.cell? ⟨X, 3, none⟩ = some (.int .i64 (r.a)) ∧ w'.cell? ⟨X, 4, none⟩ = some (.int .i64 (r.n)) ∧ w'.cell? ⟨X, 5, none⟩ = some (.int .i64 (ci)) ∧ w'.cell? ⟨X, 6, none⟩ = some (.int .i64 (r.d)) ∧ w'.cell? ⟨X, 7, none⟩ = some (.string r.h) ∧ w'.cell? ⟨X, 8, none⟩ = some (.string r.s)) (fillE (fillR w7 Y (ce) (ci)) Z (ev02 r p ci)).drew := by
    exact K1d.xb.all
   unfold fillR at K0
   unfold fillE fillR ev02 at K1
   dsimp only at K0 K1
   have HK0 := Lib.hid K0
   have HK1 := Lib.hid K1
   clear K0 K1 K0d K1d
   go_upto_region 19 with fail
   refine wp_region_held_drew (S := fun w' => w'.cell? ⟨X, 0, none⟩ = some (.int .i64 (r.k)) ∧ w'.cell? ⟨X, 1, none⟩ = some (.int .i64 (p)) ∧ w'.cell? ⟨X, 2, none⟩ = some (.int .i64 (r.t)) ∧ w'.cell? ⟨X, 3, none⟩ = some (.int .i64 (r.a)) ∧ w'.cell? ⟨X, 4, none⟩ = some (.int .i64 (r.n)) ∧ w'.cell? ⟨X, 5, none⟩ = some (.int .i64 (ci)) ∧ w'.cell? ⟨X, 6, none⟩ = some (.int .i64 (r.d)) ∧ w'.cell? ⟨X, 7, none⟩ = some (.string r.h) ∧ w'.cell? ⟨X, 8, none⟩ = some (.string r.s)) (by kernel_rfl) ?_ (fun hHeld => ?_)
   · exact ⟨x0, x1, x2, x3, x4, x5, x6, x7, x8⟩
   refine tk 0 134 ?_
   simp only [lz]
   refine tk 1 135 ?_
   simp only [lz]
   refine tk 2 136 ?_
   simp only [lz]
   refine tk 3 137 ?_
   simp only [lz]
   refine wpAnyH_ready (rs := [4]) (by kernel_rfl) (by simp) ?_
   refine AllReadyH.cons rfl (fun K hK => ?_) AllReadyH.nil
   go_simp
   skip
   go_wp2_with fail
   refine hK.out _ _ ?_ (fun hHeld => ?_)
   · exact HK0.out
   clear hK K
   try simp only [Act.put, lg]
   try simp only [lz]
   refine wpAnyH_ready (rs := [5]) (by kernel_rfl) (by simp) ?_
   refine AllReadyH.cons rfl (fun K hK => ?_) AllReadyH.nil
   go_simp
   skip
   go_wp2_with fail
   refine hK.out _ _ ?_ (fun hHeld => ?_)
   · exact HK1.out
   clear hK K
   try simp only [Act.put, lg]
   try simp only [lz]
   refine wpAnyH_done (by kernel_rfl) ?_ _
   clear hHeld x0 x1 x2 x3 x4 x5 x6 x7 x8 yc0 yc1 zc0 zc1 zc2 zc3 zc4 zc5 zc6 zc7 zc8 yf0 yf1 zf0 zf1 zf2 zf3 zf4 zf5 zf6 zf7 zf8 HK0 HK1
   go_wp2_with fail
   obtain ⟨wf, hwf⟩ : ∃ wf, wf = (fillE (fillR w7 Y (ce) (ci)) Z (ev02 r p ci)).drew := ⟨_, rfl⟩
   have HF := HD7.out.fin (ce) (ci) (ev02 r p ci)
   have HFy : Hid (RpB wf Y (ce) (ci)) := Lib.hid (by rw [hwf]; exact HF.1.keep (Keeps.of_below (S := fun _ => False) (below_drew _)) (fun h => h))
   have HFz : Hid (EvB wf Z (ev02 r p ci)) := Lib.hid (by rw [hwf]; exact HF.2.1.keep (Keeps.of_below (S := fun _ => False) (below_drew _)) (fun h => h))
   have HFd := Lib.hid (HF.2.2.below (below_drew _))
   rw [← hwf] at HFd
   clear HF
   unfold fillE fillR ev02 at hwf
   dsimp only at hwf
   rw [← hwf]
   clear hwf
   have ry0 := blk_cell HFy.out 0
   have ry1 := blk_cell HFy.out 1
   obtain ⟨z0, z1, z2, z3, z4, z5, z6, z7, z8⟩ := HFz.out.all
   simp only [lq] at ry0 ry1
   refine bodyPost_ret (v := .tuple #[.agg #[.int .i64 (ce), .int .i64 (ci)], .agg (ev02 r p ci).cells]) (by simp [results, Tryz.results32, go_sem, ry0, ry1, z0, z1, z2, z3, z4, z5, z6, z7, z8, EV.cells]) rfl ?_
   rw [HDD.out]
   exact ⟨rfl, _, HFd.out.ld, HFd.out.kp, HFd.out.nw⟩
 rw [if_neg hk2] at HDF
 have kb2 : (r.k == 2) = false := by simp [hk2]
 clear hk2 r0 r1 r2 r3 r4 r5 r6 r7
 obtain ⟨r0, _⟩ := HD4.out.rb.all
 by_cases hk3 : r.k = 3
 · rw [if_pos hk3] at HDF
   have kb3 : (r.k == 3) = true := by simp [hk3]
   have HDD := HDF
   clear hk3 HDF
   have HDd := Lib.hid (HD4.out.below (below_drew _))
   obtain ⟨_, a2, a3, _⟩ := HD4.out.ld.cells
   obtain ⟨r0, r1, r2, r3, r4, r5, r6, r7⟩ := HD4.out.rb.all
   obtain ⟨x0, x1, x2, x3, x4, x5, x6, x7, x8⟩ := HD4.out.xb.all
   unfold ev00 at x0 x1 x2 x3 x4 x5 x6 x7 x8
   dsimp only at x0 x1 x2 x3 x4 x5 x6 x7 x8
   go_upto_region 21 with fail
   refine wp_region_held_drew (S := fun w' => w'.cell? ⟨A, 2, none⟩ = some (.pointer (some ⟨B, 0, none⟩)) ∧ w'.cell? ⟨A, 3, none⟩ = some (.int .i64 s.ck) ∧ w'.cell? ⟨R, 4, none⟩ = some (.int .i64 r.i) ∧ w'.cell? ⟨R, 7, none⟩ = some (.string r.s) ∧ w'.cell? ⟨X, 0, none⟩ = some (.int .i64 (r.k)) ∧ w'.cell? ⟨X, 1, none⟩ = some (.int .i64 (0)) ∧ w'.cell? ⟨X, 2, none⟩ = some (.int .i64 (0)) ∧ w'.cell? ⟨X, 3, none⟩ = some (.int .i64 (0)) ∧ w'.cell? ⟨X, 4, none⟩ = some (.int .i64 (0)) ∧ w'.cell? ⟨X, 5, none⟩ = some (.int .i64 (r.i)) ∧ w'.cell? ⟨X, 6, none⟩ = some (.int .i64 (0)) ∧ w'.cell? ⟨X, 7, none⟩ = some (.string ⟨#[]⟩) ∧ w'.cell? ⟨X, 8, none⟩ = some (.string r.s)) (by kernel_rfl) ?_ (fun hHeld => ?_)
   · exact ⟨a2, a3, r4, r7, x0, x1, x2, x3, x4, x5, x6, x7, x8⟩
   refine tk 0 140 ?_
   simp only [lz]
   refine tk 1 141 ?_
   simp only [lz]
   refine tk 2 142 ?_
   simp only [lz]
   refine tk 3 143 ?_
   simp only [lz]
   refine tk 4 144 ?_
   simp only [lz]
   refine tk 5 145 ?_
   simp only [lz]
   refine tk 6 146 ?_
   simp only [lz]
   refine tk 7 147 ?_
   simp only [lz]
   refine tk 8 148 ?_
   simp only [lz]
   refine tk 9 149 ?_
   simp only [lz]
   refine tk 10 150 ?_
   simp only [lz]
   refine tk 11 151 ?_
   simp only [lz]
   refine tk 12 152 ?_
   simp only [lz]
   refine tk 15 155 ?_
   simp only [lz]
   refine wpAnyH_ready (rs := [13]) (by kernel_rfl) (by simp) ?_
   refine AllReadyH.cons rfl (fun K hK => ?_) AllReadyH.nil
   go_simp
   refine (HDd.out.ld.eb.claim p r.i r.s s.ck).mono ?_
   rintro e w5 ⟨rfl, hp⟩
   obtain ⟨Sb5, hd5⟩ := HDd.out.book hp
   have HD5 := Lib.hid hd5
   clear hp hd5 x0 x1 x2 x3 x4 x5 x6 x7 x8 r0 r1 r2 r3 r4 r5 r6 r7 a2 a3
   obtain ⟨_, a2, a3, _⟩ := HD5.out.ld.cells
   obtain ⟨r0, r1, r2, r3, r4, r5, r6, r7⟩ := HD5.out.rb.all
   obtain ⟨x0, x1, x2, x3, x4, x5, x6, x7, x8⟩ := HD5.out.xb.all
   unfold ev00 at x0 x1 x2 x3 x4 x5 x6 x7 x8
   dsimp only at x0 x1 x2 x3 x4 x5 x6 x7 x8
   obtain ⟨ya, yb, hyb⟩ := HD5.out.yb
   have yc0 := blk_cell hyb 0
   have yc1 := blk_cell hyb 1
   simp only [lq] at yc0 yc1
   obtain ⟨ze, hze⟩ := HD5.out.zb
   obtain ⟨zc0, zc1, zc2, zc3, zc4, zc5, zc6, zc7, zc8⟩ := hze.all
   have yf0 := (HD5.out.frz 0).1
   have yf1 := (HD5.out.frz 1).1
   have zf0 := (HD5.out.frz 0).2.1
   have zf1 := (HD5.out.frz 1).2.1
   have zf2 := (HD5.out.frz 2).2.1
   have zf3 := (HD5.out.frz 3).2.1
   have zf4 := (HD5.out.frz 4).2.1
   have zf5 := (HD5.out.frz 5).2.1
   have zf6 := (HD5.out.frz 6).2.1
   have zf7 := (HD5.out.frz 7).2.1
   have zf8 := (HD5.out.frz 8).2.1
   have hYZ : ¬ Y = Z := HD5.out.df.2.2.2.1
   have hZY : ¬ Z = Y := fun h => hYZ h.symm
   clear hyb hze
   have K0d := HD5.out.fin1 (claimE n m s.b s.l p r.i r.s s.ck) (0)
   have K1d := (HD5.out.fin (claimE n m s.b s.l p r.i r.s s.ck) (0) (ev00 r)).2.2
   have K0 : (fun (w' : World) => w'.cell? ⟨A, 2, none⟩ = some (.pointer (some ⟨B, 0, none⟩)) ∧ w'.cell? ⟨A, 3, none⟩ = some (.int .i64 s.ck) ∧ w'.cell? ⟨R, 4, none⟩ = some (.int .i64 r.i) ∧ w'.cell? ⟨R, 7, none⟩ = some (.string r.s) ∧ w'.cell? ⟨X, 0, none⟩ = some (.int .i64 (r.k)) ∧ w'.cell? ⟨X, 1, none⟩ = some (.int .i64 (0)) ∧ w'.cell? ⟨X, 2, none⟩ = some (.int .i64 (0)) ∧ w'.cell? ⟨X, 3, none⟩ = some (.int .i64 (0)) ∧ w'.cell? ⟨X, 4, none⟩ = some (.int .i64 (0)) ∧ w'.cell? ⟨X, 5, none⟩ = some (.int .i64 (r.i)) ∧ w'.cell? ⟨X, 6, none⟩ = some (.int .i64 (0)) ∧ w'.cell? ⟨X, 7, none⟩ = some (.string ⟨#[]⟩) ∧ w'.cell? ⟨X, 8, none⟩ = some (.string r.s)) (fillR w5 Y (claimE n m s.b s.l p r.i r.s s.ck) (0)) := by
    exact ⟨K0d.ld.cells.2.1, K0d.ld.cells.2.2.1, K0d.rb.all.2.2.2.2.1, K0d.rb.all.2.2.2.2.2.2.2, K0d.xb.all⟩
   have K1 : (fun (w' : World) => w'.cell? ⟨A, 2, none⟩ = some (.pointer (some ⟨B, 0, none⟩)) ∧ w'.cell? ⟨A, 3, none⟩ = some (.int .i64 s.ck) ∧ w'.cell? ⟨R, 4, none⟩ = some (.int .i64 r.i) ∧ w'.cell? ⟨R, 7, none⟩ = some (.string r.s) ∧ w'.cell? ⟨X, 0, none⟩ = some (.int .i64 (r.k)) ∧ w'.cell? ⟨X, 1, none⟩ = some (.int .i64 (0)) ∧ w'.cell? ⟨X, 2, none⟩ = some (.int .i64 (0)) ∧ w'.cell? ⟨X, 3, none⟩ = some (.int .i64 (0)) ∧ w'.cell? ⟨X, 4, none⟩ = some (.int .i64 (0)) ∧ w'.cell? ⟨X, 5, none⟩ = some (.int .i64 (r.i)) ∧ w'.cell? ⟨X, 6, none⟩ = some (.int .i64 (0)) ∧ w'.cell? ⟨X, 7, none⟩ = some (.string ⟨#[]⟩) ∧ w'.cell? ⟨X, 8, none⟩ = some (.string r.s)) (fillE (fillR w5 Y (claimE n m s.b s.l p r.i r.s s.ck) (0)) Z (ev00 r)) := by
    exact ⟨K1d.ld.cells.2.1, K1d.ld.cells.2.2.1, K1d.rb.all.2.2.2.2.1, K1d.rb.all.2.2.2.2.2.2.2, K1d.xb.all⟩
   unfold fillR at K0
   unfold fillE fillR ev00 at K1
   dsimp only at K0 K1
   have HK0 := Lib.hid K0
   have HK1 := Lib.hid K1
   clear K0 K1 K0d K1d
   dsimp only
   go_wp2_with fail
   refine hK.out _ _ ?_ (fun hHeld => ?_)
   · exact ⟨a2, a3, r4, r7, x0, x1, x2, x3, x4, x5, x6, x7, x8⟩
   clear hK K
   try simp only [Act.put, lg]
   try simp only [lz]
   refine tk 14 154 ?_
   simp only [lz]
   refine wpAnyH_ready (rs := [16]) (by kernel_rfl) (by simp) ?_
   refine AllReadyH.cons rfl (fun K hK => ?_) AllReadyH.nil
   go_simp
   skip
   go_wp2_with fail
   refine hK.out _ _ ?_ (fun hHeld => ?_)
   · exact HK0.out
   clear hK K
   try simp only [Act.put, lg]
   try simp only [lz]
   refine wpAnyH_ready (rs := [17]) (by kernel_rfl) (by simp) ?_
   refine AllReadyH.cons rfl (fun K hK => ?_) AllReadyH.nil
   go_simp
   skip
   go_wp2_with fail
   refine hK.out _ _ ?_ (fun hHeld => ?_)
   · exact HK1.out
   clear hK K
   try simp only [Act.put, lg]
   try simp only [lz]
   refine wpAnyH_done (by kernel_rfl) ?_ _
   clear r0 r1 r2 r3 r4 r5 r6 r7 a2 a3
   clear hHeld x0 x1 x2 x3 x4 x5 x6 x7 x8 yc0 yc1 zc0 zc1 zc2 zc3 zc4 zc5 zc6 zc7 zc8 yf0 yf1 zf0 zf1 zf2 zf3 zf4 zf5 zf6 zf7 zf8 HK0 HK1
   go_wp2_with fail
   obtain ⟨wf, hwf⟩ : ∃ wf, wf = (fillE (fillR w5 Y (claimE n m s.b s.l p r.i r.s s.ck) (0)) Z (ev00 r)) := ⟨_, rfl⟩
   have HF := HD5.out.fin (claimE n m s.b s.l p r.i r.s s.ck) (0) (ev00 r)
   have HFy : Hid (RpB wf Y (claimE n m s.b s.l p r.i r.s s.ck) (0)) := Lib.hid (by rw [hwf]; exact HF.1)
   have HFz : Hid (EvB wf Z (ev00 r)) := Lib.hid (by rw [hwf]; exact HF.2.1)
   have HFd := Lib.hid (HF.2.2)
   rw [← hwf] at HFd
   clear HF
   unfold fillE fillR ev00 at hwf
   dsimp only at hwf
   rw [← hwf]
   clear hwf
   have ry0 := blk_cell HFy.out 0
   have ry1 := blk_cell HFy.out 1
   obtain ⟨z0, z1, z2, z3, z4, z5, z6, z7, z8⟩ := HFz.out.all
   simp only [lq] at ry0 ry1
   refine bodyPost_ret (v := .tuple #[.agg #[.int .i64 (claimE n m s.b s.l p r.i r.s s.ck), .int .i64 (0)], .agg (ev00 r).cells]) (by simp [results, Tryz.results32, go_sem, ry0, ry1, z0, z1, z2, z3, z4, z5, z6, z7, z8, EV.cells]) rfl ?_
   rw [HDD.out]
   exact ⟨rfl, _, HFd.out.ld, HFd.out.kp, HFd.out.nw⟩
 rw [if_neg hk3] at HDF
 have kb3 : (r.k == 3) = false := by simp [hk3]
 have HDD := HDF
 clear hk3 HDF
 have HDd := Lib.hid (HD4.out.below (below_drew _))
 obtain ⟨_, a2, a3, _⟩ := HD4.out.ld.cells
 obtain ⟨r0, r1, r2, r3, r4, r5, r6, r7⟩ := HD4.out.rb.all
 obtain ⟨x0, x1, x2, x3, x4, x5, x6, x7, x8⟩ := HD4.out.xb.all
 unfold ev00 at x0 x1 x2 x3 x4 x5 x6 x7 x8
 dsimp only at x0 x1 x2 x3 x4 x5 x6 x7 x8
 go_upto_region 22 with fail
 refine wp_region_held_drew (S := fun w' => w'.cell? ⟨A, 2, none⟩ = some (.pointer (some ⟨B, 0, none⟩)) ∧ w'.cell? ⟨A, 3, none⟩ = some (.int .i64 s.ck) ∧ w'.cell? ⟨R, 4, none⟩ = some (.int .i64 r.i) ∧ w'.cell? ⟨X, 0, none⟩ = some (.int .i64 (r.k)) ∧ w'.cell? ⟨X, 1, none⟩ = some (.int .i64 (0)) ∧ w'.cell? ⟨X, 2, none⟩ = some (.int .i64 (0)) ∧ w'.cell? ⟨X, 3, none⟩ = some (.int .i64 (0)) ∧ w'.cell? ⟨X, 4, none⟩ = some (.int .i64 (0)) ∧ w'.cell? ⟨X, 5, none⟩ = some (.int .i64 (r.i)) ∧ w'.cell? ⟨X, 6, none⟩ = some (.int .i64 (0)) ∧ w'.cell? ⟨X, 7, none⟩ = some (.string ⟨#[]⟩) ∧ w'.cell? ⟨X, 8, none⟩ = some (.string r.s)) (by kernel_rfl) ?_ (fun hHeld => ?_)
 · exact ⟨a2, a3, r4, x0, x1, x2, x3, x4, x5, x6, x7, x8⟩
 refine tk 0 156 ?_
 simp only [lz]
 refine tk 1 157 ?_
 simp only [lz]
 refine tk 2 158 ?_
 simp only [lz]
 refine tk 3 159 ?_
 simp only [lz]
 refine tk 4 160 ?_
 simp only [lz]
 refine tk 5 161 ?_
 simp only [lz]
 refine tk 6 162 ?_
 simp only [lz]
 refine tk 7 163 ?_
 simp only [lz]
 refine tk 8 164 ?_
 simp only [lz]
 refine tk 9 165 ?_
 simp only [lz]
 refine tk 10 166 ?_
 simp only [lz]
 refine tk 13 169 ?_
 simp only [lz]
 refine wpAnyH_ready (rs := [11]) (by kernel_rfl) (by simp) ?_
 refine AllReadyH.cons rfl (fun K hK => ?_) AllReadyH.nil
 go_simp
 refine (HDd.out.ld.eb.refund p r.i s.ck).mono ?_
 rintro e w5 ⟨rfl, hp⟩
 obtain ⟨Sb5, hd5⟩ := HDd.out.book hp
 have HD5 := Lib.hid hd5
 clear hp hd5 x0 x1 x2 x3 x4 x5 x6 x7 x8 r0 r1 r2 r3 r4 r5 r6 r7 a2 a3
 obtain ⟨_, a2, a3, _⟩ := HD5.out.ld.cells
 obtain ⟨r0, r1, r2, r3, r4, r5, r6, r7⟩ := HD5.out.rb.all
 obtain ⟨x0, x1, x2, x3, x4, x5, x6, x7, x8⟩ := HD5.out.xb.all
 unfold ev00 at x0 x1 x2 x3 x4 x5 x6 x7 x8
 dsimp only at x0 x1 x2 x3 x4 x5 x6 x7 x8
 obtain ⟨ya, yb, hyb⟩ := HD5.out.yb
 have yc0 := blk_cell hyb 0
 have yc1 := blk_cell hyb 1
 simp only [lq] at yc0 yc1
 obtain ⟨ze, hze⟩ := HD5.out.zb
 obtain ⟨zc0, zc1, zc2, zc3, zc4, zc5, zc6, zc7, zc8⟩ := hze.all
 have yf0 := (HD5.out.frz 0).1
 have yf1 := (HD5.out.frz 1).1
 have zf0 := (HD5.out.frz 0).2.1
 have zf1 := (HD5.out.frz 1).2.1
 have zf2 := (HD5.out.frz 2).2.1
 have zf3 := (HD5.out.frz 3).2.1
 have zf4 := (HD5.out.frz 4).2.1
 have zf5 := (HD5.out.frz 5).2.1
 have zf6 := (HD5.out.frz 6).2.1
 have zf7 := (HD5.out.frz 7).2.1
 have zf8 := (HD5.out.frz 8).2.1
 have hYZ : ¬ Y = Z := HD5.out.df.2.2.2.1
 have hZY : ¬ Z = Y := fun h => hYZ h.symm
 clear hyb hze
 have K0d := HD5.out.fin1 (refundE n m s.b s.l p r.i s.ck) (0)
 have K1d := (HD5.out.fin (refundE n m s.b s.l p r.i s.ck) (0) (ev00 r)).2.2
 have K0 : (fun (w' : World) => w'.cell? ⟨A, 2, none⟩ = some (.pointer (some ⟨B, 0, none⟩)) ∧ w'.cell? ⟨A, 3, none⟩ = some (.int .i64 s.ck) ∧ w'.cell? ⟨R, 4, none⟩ = some (.int .i64 r.i) ∧ w'.cell? ⟨X, 0, none⟩ = some (.int .i64 (r.k)) ∧ w'.cell? ⟨X, 1, none⟩ = some (.int .i64 (0)) ∧ w'.cell? ⟨X, 2, none⟩ = some (.int .i64 (0)) ∧ w'.cell? ⟨X, 3, none⟩ = some (.int .i64 (0)) ∧ w'.cell? ⟨X, 4, none⟩ = some (.int .i64 (0)) ∧ w'.cell? ⟨X, 5, none⟩ = some (.int .i64 (r.i)) ∧ w'.cell? ⟨X, 6, none⟩ = some (.int .i64 (0)) ∧ w'.cell? ⟨X, 7, none⟩ = some (.string ⟨#[]⟩) ∧ w'.cell? ⟨X, 8, none⟩ = some (.string r.s)) (fillR w5 Y (refundE n m s.b s.l p r.i s.ck) (0)) := by
  exact ⟨K0d.ld.cells.2.1, K0d.ld.cells.2.2.1, K0d.rb.all.2.2.2.2.1, K0d.xb.all⟩
 have K1 : (fun (w' : World) => w'.cell? ⟨A, 2, none⟩ = some (.pointer (some ⟨B, 0, none⟩)) ∧ w'.cell? ⟨A, 3, none⟩ = some (.int .i64 s.ck) ∧ w'.cell? ⟨R, 4, none⟩ = some (.int .i64 r.i) ∧ w'.cell? ⟨X, 0, none⟩ = some (.int .i64 (r.k)) ∧ w'.cell? ⟨X, 1, none⟩ = some (.int .i64 (0)) ∧ w'.cell? ⟨X, 2, none⟩ = some (.int .i64 (0)) ∧ w'.cell? ⟨X, 3, none⟩ = some (.int .i64 (0)) ∧ w'.cell? ⟨X, 4, none⟩ = some (.int .i64 (0)) ∧ w'.cell? ⟨X, 5, none⟩ = some (.int .i64 (r.i)) ∧ w'.cell? ⟨X, 6, none⟩ = some (.int .i64 (0)) ∧ w'.cell? ⟨X, 7, none⟩ = some (.string ⟨#[]⟩) ∧ w'.cell? ⟨X, 8, none⟩ = some (.string r.s)) (fillE (fillR w5 Y (refundE n m s.b s.l p r.i s.ck) (0)) Z (ev00 r)) := by
  exact ⟨K1d.ld.cells.2.1, K1d.ld.cells.2.2.1, K1d.rb.all.2.2.2.2.1, K1d.xb.all⟩
 unfold fillR at K0
 unfold fillE fillR ev00 at K1
 dsimp only at K0 K1
 have HK0 := Lib.hid K0
 have HK1 := Lib.hid K1
 clear K0 K1 K0d K1d
 dsimp only
 go_wp2_with fail
 refine hK.out _ _ ?_ (fun hHeld => ?_)
 · exact ⟨a2, a3, r4, x0, x1, x2, x3, x4, x5, x6, x7, x8⟩
 clear hK K
 try simp only [Act.put, lg]
 try simp only [lz]
 refine tk 12 168 ?_
 simp only [lz]
 refine wpAnyH_ready (rs := [14]) (by kernel_rfl) (by simp) ?_
 refine AllReadyH.cons rfl (fun K hK => ?_) AllReadyH.nil
 go_simp
 skip
 go_wp2_with fail
 refine hK.out _ _ ?_ (fun hHeld => ?_)
 · exact HK0.out
 clear hK K
 try simp only [Act.put, lg]
 try simp only [lz]
 refine wpAnyH_ready (rs := [15]) (by kernel_rfl) (by simp) ?_
 refine AllReadyH.cons rfl (fun K hK => ?_) AllReadyH.nil
 go_simp
 skip
 go_wp2_with fail
 refine hK.out _ _ ?_ (fun hHeld => ?_)
 · exact HK1.out
 clear hK K
 try simp only [Act.put, lg]
 try simp only [lz]
 refine wpAnyH_done (by kernel_rfl) ?_ _
 clear r0 r1 r2 r3 r4 r5 r6 r7 a2 a3
 clear hHeld x0 x1 x2 x3 x4 x5 x6 x7 x8 yc0 yc1 zc0 zc1 zc2 zc3 zc4 zc5 zc6 zc7 zc8 yf0 yf1 zf0 zf1 zf2 zf3 zf4 zf5 zf6 zf7 zf8 HK0 HK1
 go_wp2_with fail
 obtain ⟨wf, hwf⟩ : ∃ wf, wf = (fillE (fillR w5 Y (refundE n m s.b s.l p r.i s.ck) (0)) Z (ev00 r)) := ⟨_, rfl⟩
 have HF := HD5.out.fin (refundE n m s.b s.l p r.i s.ck) (0) (ev00 r)
 have HFy : Hid (RpB wf Y (refundE n m s.b s.l p r.i s.ck) (0)) := Lib.hid (by rw [hwf]; exact HF.1)
 have HFz : Hid (EvB wf Z (ev00 r)) := Lib.hid (by rw [hwf]; exact HF.2.1)
 have HFd := Lib.hid (HF.2.2)
 rw [← hwf] at HFd
 clear HF
 unfold fillE fillR ev00 at hwf
 dsimp only at hwf
 rw [← hwf]
 clear hwf
 have ry0 := blk_cell HFy.out 0
 have ry1 := blk_cell HFy.out 1
 obtain ⟨z0, z1, z2, z3, z4, z5, z6, z7, z8⟩ := HFz.out.all
 simp only [lq] at ry0 ry1
 refine bodyPost_ret (v := .tuple #[.agg #[.int .i64 (refundE n m s.b s.l p r.i s.ck), .int .i64 (0)], .agg (ev00 r).cells]) (by simp [results, Tryz.results32, go_sem, ry0, ry1, z0, z1, z2, z3, z4, z5, z6, z7, z8, EV.cells]) rfl ?_
 rw [HDD.out]
 exact ⟨rfl, _, HFd.out.ld, HFd.out.kp, HFd.out.nw⟩
end
end Go.Proofs.YtkaciaehlibidaaGreat
