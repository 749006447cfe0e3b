/- The ledger: where it lies; Check, New, Clock, Total, Escrow, room. -/
import Derived.Test.YtkaciaehlibidaaGreatLe1
namespace Go.Proofs.YtkaciaehlibidaaGreat
open Go.RowKit
set_option linter.unusedVariables false
set_option linter.unusedSimpArgs false

theorem below_drew (w : World) : Below w.heap.size w w.drew := (Keeps.refl (fun _ => False) w).drew.below (Nat.le_refl _) (fun _ f => f.elim)
/-- A ledger's blocks: its box A, its row of events v, its book (whose blocks are Sb). -/
structure LDat (Sb : Nat → Prop) (W w : World) (n m : Nat) (E : Int) (s : LS) (T : Nat → Int) (A B tb q : Nat) (v : Value) : Prop where
  eb : EB Sb W w n m s.b s.l T B tb q
  box : w.heap[A]? = some (.cells #[.slice none 0 0, .int .i64 E, .pointer (some ⟨B, 0, none⟩), .int .i64 s.ck, v] 85 (0, 0))
  row : w.ownsRow 0 106 11 v s.es.length (s.es.flatMap DN.list)
  nA : ¬ Sb A
  nv : ∀ g, v.ownBlock = some g → ¬ Sb g
  oA : W.heap.size ≤ A
  ov : ∀ g, v.ownBlock = some g → W.heap.size ≤ g
/-- All of a ledger's blocks. -/
def LD (S : Nat → Prop) (W w : World) (n m : Nat) (E : Int) (s : LS) (T : Nat → Int) (A B tb q : Nat) : Prop :=
  ∃ Sb v, LDat Sb W w n m E s T A B tb q v ∧ LInv n m E s T ∧ ∀ i, S i ↔ (Sb i ∨ i = A ∨ v.ownBlock = some i)
/-- What a call leaves. -/
def LPost (S : Nat → Prop) (W w : World) (n m : Nat) (E : Int) (s : LS) (T : Nat → Int) (A B tb q : Nat) (w' : World) : Prop :=
  ∃ S', LD S' W w' n m E s T A B tb q ∧ Keeps S w w' ∧ ∀ i, S' i → S i ∨ w.heap.size ≤ i

section
variable {S Sb : Nat → Prop} {W w w' : World} {n m : Nat} {E : Int} {s : LS} {T : Nat → Int} {A B tb q : Nat} {v : Value} {b b' : Nat → Nat → Int} {l l' : List XR}
theorem EB.move (h : EB S W w n m b l T B tb q) (f t j x : Int) :
    Calls Tryz.prog 62 #[.pointer (some ⟨q, 0, none⟩), .int .i64 f, .int .i64 t, .int .i64 j, .int .i64 x] w fun e w' =>
      e = .returned (.int .i64 (moveE n m b f t j x)) ∧ EPost S W w n m (moveN n m b f t j x) l T B tb q w' := by
  obtain ⟨Sp, v, h1, h2, h3, h4, h5, h6, h7⟩ := h
  refine (pur_move q n m Sp b w h1.pu h4.good f t j x).mono ?_
  rintro e w' ⟨rfl, hp⟩
  exact ⟨rfl, EB.tpost h1 h2 h5 h6 h7 (h4.move f t j x) ⟨tab_keep h3 hp.2 h2, v, h1.purse hp, hp.2.mono (fun i _ hi => Or.inl (Or.inr (Or.inr hi))), fun g hg => Or.inl hg⟩⟩
theorem EB.there (h : EB S W w n m b l T B tb q) : Calls Tryz.prog 60 #[.pointer (some ⟨q, 0, none⟩)] w fun e w' => e = .returned (.int .i64 (n : Int)) ∧ w = w' := by
  obtain ⟨Sp, v, h1, _⟩ := h; exact pur_parties q n m Sp b w h1.pu
theorem LDat.vA (h : LDat Sb W w n m E s T A B tb q v) : ∀ g, v.ownBlock = some g → g ≠ A := fun g hg => by
  obtain ⟨cur, h1⟩ := row_ty h.row hg
  exact TyAt.ne ⟨_, _, h.box⟩ h1 (by decide)
theorem LDat.cells (h : LDat Sb W w n m E s T A B tb q v) : w.cell? ⟨A, 1, none⟩ = some (.int .i64 E) ∧ w.cell? ⟨A, 2, none⟩ = some (.pointer (some ⟨B, 0, none⟩)) ∧ w.cell? ⟨A, 3, none⟩ = some (.int .i64 s.ck) ∧ w.cell? ⟨A, 4, none⟩ = some v :=
  ⟨blk_cell h.box 1, blk_cell h.box 2, blk_cell h.box 3, blk_cell h.box 4⟩
theorem LDat.lt (h : LDat Sb W w n m E s T A B tb q v) : ∀ i, (Sb i ∨ i = A ∨ v.ownBlock = some i) → i < w.heap.size := by
  rintro i (hi | rfl | hi)
  · exact h.eb.lt i hi
  · exact blk_lt h.box
  · exact (h.row.lt i hi).2
theorem LDat.new (h : LDat Sb W w n m E s T A B tb q v) : ∀ i, (Sb i ∨ i = A ∨ v.ownBlock = some i) → W.heap.size ≤ i := by
  rintro i (hi | rfl | hi)
  · exact h.eb.new i hi
  · exact h.oA
  · exact h.ov i hi
theorem LDat.keep {S2 : Nat → Prop} (h : LDat Sb W w n m E s T A B tb q v) (hk : Keeps S2 w w') (hs : ∀ i, S2 i → ¬ (Sb i ∨ i = A ∨ v.ownBlock = some i)) (hn : ∀ i, S2 i → W.heap.size ≤ i) : LDat Sb W w' n m E s T A B tb q v :=
  ⟨h.eb.keep hk (fun i hi h2 => hs i hi (Or.inl h2)) hn, (hk.block A (blk_lt h.box) (fun h2 => hs A h2 (Or.inr (Or.inl rfl)))).trans h.box, ownsRow_same h.row (fun g hg => hk.block g (h.row.lt g hg).2 (fun h2 => hs g h2 (Or.inr (Or.inr hg)))), h.nA, h.nv, h.oA, h.ov⟩
theorem LDat.below (h : LDat Sb W w n m E s T A B tb q v) (hb : Below w.heap.size w w') : LDat Sb W w' n m E s T A B tb q v := h.keep (Keeps.of_below (S := fun _ => False) hb) (fun _ h => h.elim) (fun _ h => h.elim)
/-- The book turned. -/
theorem LDat.book (h : LDat Sb W w n m E s T A B tb q v) (hp : EPost Sb W w n m b' l' T B tb q w') :
    ∃ Sb', LDat Sb' W w' n m E ⟨b', l', s.ck, s.es⟩ T A B tb q v ∧ Keeps Sb w w' ∧ ∀ i, Sb' i → Sb i ∨ w.heap.size ≤ i := by
  obtain ⟨Sb', h1, h2, h3⟩ := hp
  refine ⟨Sb', ⟨h1, (h2.block A (blk_lt h.box) h.nA).trans h.box, ownsRow_same h.row (fun g hg => h2.block g (h.row.lt g hg).2 (h.nv g hg)), fun hh => ?_, fun g hg hh => ?_, h.oA, h.ov⟩, h2, h3⟩
  · rcases h3 A hh with e | e
    · exact h.nA e
    · have := blk_lt h.box; omega
  · rcases h3 g hh with e | e
    · exact h.nv g hg e
    · have := (h.row.lt g hg).2; omega
theorem LD.dat (h : LD S W w n m E s T A B tb q) : ∃ Sb v, LDat Sb W w n m E s T A B tb q v ∧ LInv n m E s T ∧ ∀ i, S i ↔ (Sb i ∨ i = A ∨ v.ownBlock = some i) := h
theorem LD.bel (h : LD S W w n m E s T A B tb q) : Below W.heap.size W w := by obtain ⟨_, _, h, _⟩ := h; exact h.eb.bel
theorem LD.inv (h : LD S W w n m E s T A B tb q) : LInv n m E s T := by obtain ⟨_, _, _, h, _⟩ := h; exact h
theorem LD.new (h : LD S W w n m E s T A B tb q) : ∀ i, S i → W.heap.size ≤ i := by
  obtain ⟨_, _, h1, _, h3⟩ := h
  exact fun i hi => h1.new i ((h3 i).1 hi)
theorem LD.lt (h : LD S W w n m E s T A B tb q) : ∀ i, S i → i < w.heap.size := by
  obtain ⟨_, _, h1, _, h3⟩ := h
  exact fun i hi => h1.lt i ((h3 i).1 hi)
theorem LD.keep {S2 : Nat → Prop} (h : LD S W w n m E s T A B tb q) (hk : Keeps S2 w w') (hs : ∀ i, S2 i → ¬ S i) (hn : ∀ i, S2 i → W.heap.size ≤ i) : LD S W w' n m E s T A B tb q := by
  obtain ⟨Sb, v, h1, h2, h3⟩ := h
  exact ⟨Sb, v, h1.keep hk (fun i hi h => hs i hi ((h3 i).2 h)) hn, h2, h3⟩
theorem LD.below (h : LD S W w n m E s T A B tb q) (hb : Below w.heap.size w w') : LD S W w' n m E s T A B tb q := h.keep (Keeps.of_below (S := fun _ => False) hb) (fun _ h => h.elim) (fun _ h => h.elim)
theorem EB.from2 {W0 : World} (h : EB S W w n m b l T B tb q) (hb : Below W0.heap.size W0 W) : EB S W0 w n m b l T B tb q := by
  obtain ⟨Sp, v, h1, h2, h3, h4, h5, h6, h7⟩ := h
  exact ⟨Sp, v, h1, h2, h3, h4, below_step hb h5, h6, fun i hi => Nat.le_trans hb.size (h7 i hi)⟩
theorem LD.from_ {W0 : World} (h : LD S W w n m E s T A B tb q) (hb : Below W0.heap.size W0 W) : LD S W0 w n m E s T A B tb q := by
  obtain ⟨Sb, v, h1, h2, h3⟩ := h
  exact ⟨Sb, v, ⟨h1.eb.from2 hb, h1.box, h1.row, h1.nA, h1.nv, Nat.le_trans hb.size h1.oA, fun g hg => Nat.le_trans hb.size (h1.ov g hg)⟩, h2, h3⟩
theorem LPost.refl (h : LD S W w n m E s T A B tb q) (hb : Below w.heap.size w w') : LPost S W w n m E s T A B tb q w' := ⟨S, h.below hb, Keeps.of_below hb, fun i hi => Or.inl hi⟩
theorem LPost.bel (h : LPost S W w n m E s T A B tb q w') : Below W.heap.size W w' := by obtain ⟨_, h, _⟩ := h; exact h.bel

set_option maxHeartbeats 1000000 in
theorem ledger_clock (h : LDat Sb W w n m E s T A B tb q v) : Calls Tryz.prog 14 #[.pointer (some ⟨A, 0, none⟩)] w fun e w' => e = .returned (.int .i64 s.ck) ∧ w = w' := by
  obtain ⟨_, _, c3, _⟩ := h.cells
  clear h
  go_enter Tryz.func14, Tryz.ntmps14
  go_wp2
  go_ret
  exact ⟨rfl, rfl⟩
set_option maxHeartbeats 1000000 in
theorem ledger_total (h : LDat Sb W w n m E s T A B tb q v) (j : Int) : Calls Tryz.prog 18 #[.pointer (some ⟨A, 0, none⟩), .int .i64 j] w fun e w' => e = .returned (.int .i64 (allX n m s.b s.l j)) ∧ Below w.heap.size w w' := by
  obtain ⟨_, c2, _, _⟩ := h.cells
  have HT := Lib.hid (h.eb.total j)
  clear h
  go_enter Tryz.func18, Tryz.ntmps18
  go_wp2_with fail
  refine HT.out.mono ?_
  rintro e w1 ⟨rfl, hb⟩
  have HB := Lib.hid hb
  clear hb
  go_wp2
  go_ret
  exact ⟨rfl, HB.out⟩
set_option maxRecDepth 100000 in
set_option maxHeartbeats 2000000 in
theorem ledger_escrow (h : LDat Sb W w n m E s T A B tb q v) (id : Int) :
    Calls Tryz.prog 17 #[.pointer (some ⟨A, 0, none⟩), .int .i64 id] w fun e w' => e = .returned (.tuple #[.agg (getX s.l id).cells, .bool (idB s.l id)]) ∧ Below w.heap.size w w' := by
  obtain ⟨w1, hw1⟩ : ∃ w1, w1 = w.alloc (.cells noX.cells 57) := ⟨_, rfl⟩
  have hb1 : Below w.heap.size w w1 := by rw [hw1]; exact (Below.refl _ _).alloc (Nat.le_refl _) _
  have H1 := Lib.hid (h.below hb1)
  have HB1 := Lib.hid hb1
  have HX1 : Hid (w1.heap[w.heap.size]? = some (.cells noX.cells 57 (0, 0))) := Lib.hid (by rw [hw1]; exact heap_alloc_new _ _)
  have HG := Lib.hid (H1.out.eb.get id)
  have HW1 := Lib.hid hw1
  clear hw1 hb1 h
  unfold noX XR.cells at HW1
  obtain ⟨_, c2, _, _⟩ := H1.out.cells
  generalize getX s.l id = x at *
  generalize idB s.l id = ib at *
  go_enter Tryz.func17, Tryz.ntmps17
  go_upto_region 1 with fail
  rw [← HW1.out]
  go_wp2_with fail
  refine HG.out.mono ?_
  rintro e w2 ⟨rfl, hb2⟩
  have HB2 := Lib.hid hb2
  have HX2 : Hid (w2.heap[w.heap.size]? = some (.cells noX.cells 57 (0, 0))) := Lib.hid ((hb2.block _ (blk_lt HX1.out)).trans HX1.out)
  clear hb2 c2
  unfold XR.cells
  have y0 := blk_frozen HX2.out 0
  have y1 := blk_frozen HX2.out 1
  have y2 := blk_frozen HX2.out 2
  have y3 := blk_frozen HX2.out 3
  have y4 := blk_frozen HX2.out 4
  have y5 := blk_frozen HX2.out 5
  have y6 := blk_frozen HX2.out 6
  have y7 := blk_frozen HX2.out 7
  obtain ⟨z0, z1, z2, z3, z4, z5, z6, z7⟩ := X_cells HX2.out
  go_wp2_with fail
  obtain ⟨wf, hwf⟩ : ∃ wf, wf = fillX w2 w.heap.size x := ⟨_, rfl⟩
  have HWF := Lib.hid hwf
  unfold fillX at hwf
  rw [← hwf]
  clear hwf
  have HXF : Hid (wf.heap[w.heap.size]? = some (.cells x.cells 57 (0, 0))) := Lib.hid (by rw [HWF.out]; exact fillX_heap HX2.out x)
  have HBF : Hid (Below w.heap.size w wf) := Lib.hid (by rw [HWF.out]; exact below_fp (below_step HB1.out HB2.out) (fillX_keeps _ _ _) (fun i hi => by omega))
  clear z0 z1 z2 z3 z4 z5 z6 z7 y0 y1 y2 y3 y4 y5 y6 y7
  obtain ⟨q0, q1, q2, q3, q4, q5, q6, q7⟩ := X_cells HXF.out
  refine bodyPost_ret (v := .tuple #[.agg x.cells, .bool ib]) (by simp [results, Tryz.results17, go_sem, q0, q1, q2, q3, q4, q5, q6, q7, XR.cells]) rfl ?_
  exact ⟨rfl, HBF.out⟩
set_option maxRecDepth 100000 in
set_option maxHeartbeats 2000000 in
theorem ledger_room (h : LDat Sb W w n m E s T A B tb q v) (hI : LInv n m E s T) (k : Int) (k0 : 0 ≤ k) (k1 : k ≤ 2) :
    Calls Tryz.prog 61 #[.pointer (some ⟨A, 0, none⟩), .int .i64 k] w fun e w' => e = .returned (.bool (room E s k)) ∧ Below w.heap.size w w' := by
  obtain ⟨ao, c, rfl, _, _⟩ := own_shape h.row
  obtain ⟨c1, c2, _, c4⟩ := h.cells
  have HO := Lib.hid (fun w' (hb : Below w.heap.size w w') => (h.below hb).eb.opens)
  have HC := Lib.hid (fun w' (hb : Below w.heap.size w w') => (h.below hb).cells)
  obtain ⟨_, e4, o4⟩ := hI.len
  have HRM : Hid (room E s k = decide ((s.es.length : Int) + (openX s.l : Int) + k ≤ E)) := Lib.hid rfl
  generalize room E s k = R at *
  generalize openX s.l = o at *
  generalize s.es.length = le at *
  have a0 : (0 : Int) ≤ (le : Int) := by omega
  have a1 : (le : Int) ≤ 400 := by omega
  have a2 : (0 : Int) ≤ (o : Int) := by omega
  have a3 : (o : Int) ≤ 400 := by omega
  clear h hI e4 o4
  go_enter Tryz.func61, Tryz.ntmps61
  go_upto_region 1 with fail
  refine wp_region_held_drew (S := fun w' => w'.cell? ⟨A, 1, none⟩ = some (.int .i64 E) ∧ w'.cell? ⟨A, 2, none⟩ = some (.pointer (some ⟨B, 0, none⟩)) ∧ w'.cell? ⟨A, 4, none⟩ = some (.slice ao le c)) (by kernel_rfl) ?_ (fun hHeld => ?_)
  · exact ⟨c1, c2, c4⟩
  refine take_at (i := 0) (d := 5) (v := ?_) rfl rfl (by kernel_rfl) (by kernel_rfl) (by kernel_rfl) (fun _ _ _ h => h) (Or.inl ⟨by rfl, by intro w' hSw; (try dsimp only at hSw); go_simp; try with_reducible rfl⟩) (by assumption) ?_
  simp only [List.setIfInBounds_toArray, List.set_cons_zero, List.set_cons_succ]
  refine take_at (i := 1) (d := 6) (v := ?_) rfl rfl (by kernel_rfl) (by kernel_rfl) (by kernel_rfl) (fun _ _ _ h => h) (Or.inl ⟨by rfl, by intro w' hSw; (try dsimp only at hSw); go_simp; try with_reducible rfl⟩) (by assumption) ?_
  simp only [List.setIfInBounds_toArray, List.set_cons_zero, List.set_cons_succ]
  refine take_at (i := 2) (d := 7) (v := ?_) rfl rfl (by kernel_rfl) (by kernel_rfl) (by kernel_rfl) (fun _ _ _ h => h) (Or.inl ⟨by rfl, by intro w' hSw; (try dsimp only at hSw); go_simp; try with_reducible rfl⟩) (by assumption) ?_
  simp only [List.setIfInBounds_toArray, List.set_cons_zero, List.set_cons_succ]
  refine take_at (i := 3) (d := 8) (v := ?_) rfl rfl (by kernel_rfl) (by kernel_rfl) (by kernel_rfl) (fun _ _ _ h => h) (Or.inl ⟨by rfl, by intro w' hSw; (try dsimp only at hSw); go_simp; try with_reducible rfl⟩) (by assumption) ?_
  simp only [List.setIfInBounds_toArray, List.set_cons_zero, List.set_cons_succ]
  refine take_at (i := 4) (d := 9) (v := ?_) rfl rfl (by kernel_rfl) (by kernel_rfl) (by kernel_rfl) (fun _ _ _ h => h) (Or.inl ⟨by rfl, by intro w' hSw; (try dsimp only at hSw); go_simp; try with_reducible rfl⟩) (by assumption) ?_
  simp only [List.setIfInBounds_toArray, List.set_cons_zero, List.set_cons_succ]
  refine take_at (i := 5) (d := 10) (v := ?_) rfl rfl (by kernel_rfl) (by kernel_rfl) (by kernel_rfl) (fun _ _ _ h => h) (Or.inl ⟨by rfl, by intro w' hSw; (try dsimp only at hSw); go_simp; try with_reducible rfl⟩) (by assumption) ?_
  simp only [List.setIfInBounds_toArray, List.set_cons_zero, List.set_cons_succ]
  refine take_at (i := 6) (d := 11) (v := ?_) rfl rfl (by kernel_rfl) (by kernel_rfl) (by kernel_rfl) (fun _ _ _ h => h) (Or.inl ⟨by rfl, by intro w' hSw; (try dsimp only at hSw); go_simp; try with_reducible rfl⟩) (by assumption) ?_
  simp only [List.setIfInBounds_toArray, List.set_cons_zero, List.set_cons_succ]
  refine take_at (i := 7) (d := 12) (v := ?_) rfl rfl (by kernel_rfl) (by kernel_rfl) (by kernel_rfl) (fun _ _ _ h => h) (Or.inl ⟨by rfl, by intro w' hSw; (try dsimp only at hSw); go_simp; try with_reducible rfl⟩) (by assumption) ?_
  simp only [List.setIfInBounds_toArray, List.set_cons_zero, List.set_cons_succ]
  refine take_at (i := 8) (d := 13) (v := ?_) rfl rfl (by kernel_rfl) (by kernel_rfl) (by kernel_rfl) (fun _ _ _ h => h) (Or.inl ⟨by rfl, by intro w' hSw; (try dsimp only at hSw); go_simp; try with_reducible rfl⟩) (by assumption) ?_
  simp only [List.setIfInBounds_toArray, List.set_cons_zero, List.set_cons_succ]
  refine take_at (i := 11) (d := 16) (v := ?_) rfl rfl (by kernel_rfl) (by kernel_rfl) (by kernel_rfl) (fun _ _ _ h => h) (Or.inl ⟨by rfl, by intro w' hSw; (try dsimp only at hSw); go_simp; try with_reducible rfl⟩) (by assumption) ?_
  simp only [List.setIfInBounds_toArray, List.set_cons_zero, List.set_cons_succ]
  refine take_at (i := 13) (d := 18) (v := ?_) rfl rfl (by kernel_rfl) (by kernel_rfl) (by kernel_rfl) (fun _ _ _ h => h) (Or.inl ⟨by rfl, by intro w' hSw; (try dsimp only at hSw); go_simp; try with_reducible rfl⟩) (by assumption) ?_
  simp only [List.setIfInBounds_toArray, List.set_cons_zero, List.set_cons_succ]
  refine take_at (i := 14) (d := 19) (v := ?_) rfl rfl (by kernel_rfl) (by kernel_rfl) (by kernel_rfl) (fun _ _ _ h => h) (Or.inl ⟨by rfl, by intro w' hSw; (try dsimp only at hSw); go_simp; try with_reducible rfl⟩) (by assumption) ?_
  simp only [List.setIfInBounds_toArray, List.set_cons_zero, List.set_cons_succ]
  refine take_at (i := 15) (d := 20) (v := ?_) rfl rfl (by kernel_rfl) (by kernel_rfl) (by kernel_rfl) (fun _ _ _ h => h) (Or.inl ⟨by rfl, by intro w' hSw; (try dsimp only at hSw); go_simp; try with_reducible rfl⟩) (by assumption) ?_
  simp only [List.setIfInBounds_toArray, List.set_cons_zero, List.set_cons_succ]
  refine take_at (i := 16) (d := 21) (v := ?_) rfl rfl (by kernel_rfl) (by kernel_rfl) (by kernel_rfl) (fun _ _ _ h => h) (Or.inl ⟨by rfl, by intro w' hSw; (try dsimp only at hSw); go_simp; try with_reducible rfl⟩) (by assumption) ?_
  simp only [List.setIfInBounds_toArray, List.set_cons_zero, List.set_cons_succ]
  refine take_at (i := 17) (d := 22) (v := ?_) rfl rfl (by kernel_rfl) (by kernel_rfl) (by kernel_rfl) (fun _ _ _ h => h) (Or.inl ⟨by rfl, by intro w' hSw; (try dsimp only at hSw); go_simp; try with_reducible rfl⟩) (by assumption) ?_
  simp only [List.setIfInBounds_toArray, List.set_cons_zero, List.set_cons_succ]
  refine wpAnyH_ready (rs := [9]) (by kernel_rfl) (by simp) ?_
  refine AllReadyH.cons rfl (fun K hK => ?_) AllReadyH.nil
  go_simp
  refine (HO.out _ (below_drew _)).mono ?_
  rintro e w1 ⟨rfl, hb⟩
  have hb := below_undrew hb
  have HB := Lib.hid hb
  obtain ⟨d1, d2, _, d4⟩ := HC.out w1 hb
  clear hb
  dsimp only
  go_wp2_with fail
  refine hK.out _ _ ?_ (fun hHeld => ?_)
  · exact ⟨d1, d2, d4⟩
  clear hK K
  try simp only [Act.put, List.getElem_toArray, List.getElem_cons_succ, List.getElem_cons_zero]
  try simp only [List.setIfInBounds_toArray, List.set_cons_zero, List.set_cons_succ]
  refine take_at (i := 10) (d := 15) (v := ?_) rfl rfl (by kernel_rfl) (by kernel_rfl) (by kernel_rfl) (fun _ _ _ h => h) (Or.inl ⟨by rfl, by intro w' hSw; (try dsimp only at hSw); go_simp; try with_reducible rfl⟩) (by assumption) ?_
  simp only [List.setIfInBounds_toArray, List.set_cons_zero, List.set_cons_succ]
  refine take_at (i := 12) (d := 17) (v := ?_) rfl rfl (by kernel_rfl) (by kernel_rfl) (by kernel_rfl) (fun _ _ _ h => h) (Or.inl ⟨by rfl, by intro w' hSw; (try dsimp only at hSw); go_simp; try with_reducible rfl⟩) (by assumption) ?_
  simp only [List.setIfInBounds_toArray, List.set_cons_zero, List.set_cons_succ]
  refine take_at (i := 18) (d := 23) (v := ?_) rfl rfl (by kernel_rfl) (by kernel_rfl) (by kernel_rfl) (fun _ _ _ h => h) (Or.inl ⟨by rfl, by intro w' hSw; (try dsimp only at hSw); go_simp; try with_reducible rfl⟩) (by assumption) ?_
  simp only [List.setIfInBounds_toArray, List.set_cons_zero, List.set_cons_succ]
  refine take_at (i := 19) (d := 4) (v := ?_) rfl rfl (by kernel_rfl) (by kernel_rfl) (by kernel_rfl) (fun _ _ _ h => h) (Or.inl ⟨by rfl, by intro w' hSw; (try dsimp only at hSw); go_simp; try with_reducible rfl⟩) (by assumption) ?_
  simp only [List.setIfInBounds_toArray, List.set_cons_zero, List.set_cons_succ]
  refine wpAnyH_done (by kernel_rfl) ?_ _
  clear hHeld
  go_wp2
  go_ret
  have e1 : IntKind.i64.wrap ((le : Int) + (o : Int)) = (le : Int) + (o : Int) := by rw [IntKind.wrap_i64]; omega
  have e2 : IntKind.i64.wrap ((le : Int) + (o : Int) + k) = (le : Int) + (o : Int) + k := by rw [IntKind.wrap_i64]; omega
  rw [HRM.out]
  exact ⟨ret_bool (by rw [e1, e2]), HB.out⟩
end

/-! ### New. -/
def confOK (bs : List ISl) (E : Int) : Bool := mayF bs && decide (1 ≤ E ∧ E ≤ 400)
set_option maxRecDepth 100000 in
set_option maxHeartbeats 2000000 in
theorem check_any (ao : Option Addr) (bs : List ISl) (n cap : Nat) (E : Int) (w : World) (hn : bs.length = n) (h : IntsList w ao bs) :
    Calls Tryz.prog 28 #[.agg #[.slice ao n cap, .int .i64 E]] w fun e w' => e = .returned (.int .i64 (if confOK bs E = true then 0 else 1)) ∧ Below w.heap.size w w' := by
  obtain ⟨w1, hw1⟩ : ∃ w1, w1 = w.alloc (.cells #[.slice ao n cap, .int .i64 E] 24) := ⟨_, rfl⟩
  have hb1 : Below w.heap.size w w1 := by rw [hw1]; exact (Below.refl _ _).alloc (Nat.le_refl _) _
  have HX1 : Hid (w1.heap[w.heap.size]? = some (.cells #[.slice ao n cap, .int .i64 E] 24 (0, 0))) := Lib.hid (by rw [hw1]; exact heap_alloc_new _ _)
  have HB1 := Lib.hid hb1
  have HI := Lib.hid (h.below hb1)
  have HN := Lib.hid hn
  have HW1 := Lib.hid hw1
  clear hw1 hb1 h
  have q0 := blk_cell HX1.out 0
  simp only [List.getElem?_toArray, List.getElem?_cons_zero, List.getElem?_cons_succ] at q0
  cases hm : mayF bs
  case false =>
    have HR : Hid ((if confOK bs E = true then (0 : Int) else 1) = 1) := Lib.hid (by unfold confOK; rw [hm]; rfl)
    have HM := Lib.hid hm
    rw [HR.out]
    clear hm hn
    go_enter Tryz.func28, Tryz.ntmps28
    go_upto_region 1 with fail
    rw [← HW1.out]
    go_wp2_with fail
    refine (new_no ao bs n cap w1 HN.out HI.out HM.out).mono ?_
    rintro e w2 ⟨rfl, hb2⟩
    have HB2 := Lib.hid (below_step HB1.out hb2)
    clear hb2
    go_wp2
    go_ret
    exact ⟨rfl, HB2.out⟩
  have HNY := Lib.hid (new_yes ao bs n cap (bs.getD 0 default).zs.length w1 HN.out HI.out hm rfl)
  have hR : (if confOK bs E = true then (0 : Int) else 1) = if 1 ≤ E ∧ E ≤ 400 then 0 else 1 := by unfold confOK; rw [hm]; simp
  have HR : Hid ((E < 1 → (if confOK bs E = true then (0 : Int) else 1) = 1) ∧ (400 < E → (if confOK bs E = true then (0 : Int) else 1) = 1) ∧ (1 ≤ E → E ≤ 400 → (if confOK bs E = true then (0 : Int) else 1) = 0)) := Lib.hid ⟨fun h => by rw [hR, if_neg (by omega)], fun h => by rw [hR, if_neg (by omega)], fun h h2 => by rw [hR, if_pos ⟨h, h2⟩]⟩
  clear hR
  generalize (if confOK bs E = true then (0 : Int) else 1) = R at *
  clear hm hn
  go_enter Tryz.func28, Tryz.ntmps28
  go_upto_region 1 with fail
  rw [← HW1.out]
  go_wp2_with fail
  refine HNY.out.mono ?_
  rintro e w2 ⟨q, rfl, hq⟩
  have HB2 := Lib.hid (below_step HB1.out hq.2)
  have q1 := (World.cell?_of_block (a := ⟨w.heap.size, 1, none⟩) (hq.2.block _ (blk_lt HX1.out))).trans (blk_cell HX1.out 1)
  simp only [List.getElem?_toArray, List.getElem?_cons_zero, List.getElem?_cons_succ] at q1
  clear hq q0
  by_cases h1 : E < 1
  · have HQ := Lib.hid (HR.out.1 h1)
    go_wp2
    go_ret
    rw [HQ.out]
    exact ⟨rfl, HB2.out⟩
  by_cases h2 : 400 < E
  · have HQ := Lib.hid (HR.out.2.1 h2)
    go_wp2
    go_ret
    rw [HQ.out]
    exact ⟨rfl, HB2.out⟩
  have HQ := Lib.hid (HR.out.2.2 (by omega) (by omega))
  go_wp2
  go_ret
  rw [HQ.out]
  exact ⟨rfl, HB2.out⟩
set_option maxRecDepth 100000 in
set_option maxHeartbeats 2000000 in
theorem ledger_no (tb : Nat) (ao : Option Addr) (bs : List ISl) (n cap : Nat) (E : Int) (w : World) (hn : bs.length = n) (h : IntsList w ao bs) (hc : confOK bs E = false) :
    Calls Tryz.prog 10 #[.pointer (some ⟨tb, 0, none⟩), .agg #[.slice ao n cap, .int .i64 E]] w fun e w' => e = .returned (.tuple #[.pointer none, .int .i64 1]) ∧ Below w.heap.size w w' := by
  obtain ⟨w1, hw1⟩ : ∃ w1, w1 = w.alloc (.cells #[.slice ao n cap, .int .i64 E] 24) := ⟨_, rfl⟩
  have hb1 : Below w.heap.size w w1 := by rw [hw1]; exact (Below.refl _ _).alloc (Nat.le_refl _) _
  have HX1 : Hid (w1.heap[w.heap.size]? = some (.cells #[.slice ao n cap, .int .i64 E] 24 (0, 0))) := Lib.hid (by rw [hw1]; exact heap_alloc_new _ _)
  have HB1 := Lib.hid hb1
  have HCK := Lib.hid (check_any ao bs n cap E w1 hn (h.below hb1))
  rw [hc] at HCK
  have HW1 := Lib.hid hw1
  clear hw1 hb1 h hn hc
  have q0 := blk_cell HX1.out 0
  have q1 := blk_cell HX1.out 1
  simp only [List.getElem?_toArray, List.getElem?_cons_zero, List.getElem?_cons_succ] at q0 q1
  go_enter Tryz.func10, Tryz.ntmps10
  go_upto_region 1 with fail
  rw [← HW1.out]
  go_wp2_with fail
  refine HCK.out.mono ?_
  rintro e w2 ⟨rfl, hb2⟩
  have HB2 := Lib.hid (below_step HB1.out hb2)
  clear hb2
  go_wp2
  go_ret2
  exact ⟨rfl, HB2.out⟩
set_option maxRecDepth 100000 in
set_option maxHeartbeats 2000000 in
theorem ledger_yes (W : World) (tb : Nat) (ao : Option Addr) (bs : List ISl) (n cap m : Nat) (E : Int) (w : World) (hW : Below W.heap.size W w) (ht : TabOk w tb) (htW : W.heap.size ≤ tb) (hn : bs.length = n) (h : IntsList w ao bs) (hc : confOK bs E = true) (hm2 : (bs.getD 0 default).zs.length = m) :
    Calls Tryz.prog 10 #[.pointer (some ⟨tb, 0, none⟩), .agg #[.slice ao n cap, .int .i64 E]] w fun e w' => ∃ S A B q, e = .returned (.tuple #[.pointer (some ⟨A, 0, none⟩), .int .i64 0]) ∧
      LD S W w' n m E ⟨balOf bs, [], 0, []⟩ (fun j => tot (balOf bs) j n) A B tb q ∧ Below w.heap.size w w' ∧ ∀ i, S i → i = tb ∨ w.heap.size ≤ i := by
  obtain ⟨w1, hw1⟩ : ∃ w1, w1 = w.alloc (.cells #[.slice ao n cap, .int .i64 E] 24) := ⟨_, rfl⟩
  have hb1 : Below w.heap.size w w1 := by rw [hw1]; exact (Below.refl _ _).alloc (Nat.le_refl _) _
  obtain ⟨C, hC⟩ : ∃ C, C = w.heap.size := ⟨_, rfl⟩
  have HX1 : Hid (w1.heap[C]? = some (.cells #[.slice ao n cap, .int .i64 E] 24 (0, 0))) := Lib.hid (by rw [hw1, hC]; exact heap_alloc_new _ _)
  have HB1 := Lib.hid hb1
  have HCK := Lib.hid (check_any ao bs n cap E w1 hn (h.below hb1))
  rw [hc] at HCK
  have hcc := hc
  unfold confOK at hcc
  rw [Bool.and_eq_true, decide_eq_true_eq] at hcc
  obtain ⟨hm, e1, e4⟩ := hcc
  have HN := Lib.hid (fun w' (hb : Below w.heap.size w w') => new_yes ao bs n cap m w' hn (h.below hb) hm hm2)
  have HG : Hid (Good n m (balOf bs)) := Lib.hid (by have := (mayF_good hm).1; rw [hm2, hn] at this; exact this)
  have HE := Lib.hid (And.intro e1 e4)
  have HT := Lib.hid ht
  have HTW := Lib.hid htW
  have HWW := Lib.hid hW
  have HW1 := Lib.hid hw1
  have HCC := Lib.hid hC
  clear hw1 hb1 h hn hc hm hm2 e1 e4 ht htW hW hC
  generalize balOf bs = b0 at *
  have q0 := blk_cell HX1.out 0
  have q1 := blk_cell HX1.out 1
  simp only [List.getElem?_toArray, List.getElem?_cons_zero, List.getElem?_cons_succ] at q0 q1
  go_enter Tryz.func10, Tryz.ntmps10
  go_upto_region 1 with fail
  rw [← HW1.out, ← HCC.out]
  go_wp2_with fail
  refine HCK.out.mono ?_
  rintro e w2 ⟨rfl, hb2⟩
  have HB2 := Lib.hid (below_step HB1.out hb2)
  have HX2 : Hid (w2.heap[C]? = some (.cells #[.slice ao n cap, .int .i64 E] 24 (0, 0))) := Lib.hid ((hb2.block C (blk_lt HX1.out)).trans HX1.out)
  clear hb2 q0 q1
  have q0 := blk_cell HX2.out 0
  simp only [List.getElem?_toArray, List.getElem?_cons_zero, List.getElem?_cons_succ] at q0
  go_wp2_with fail
  refine (HN.out w2 HB2.out).mono ?_
  rintro e w3 ⟨q, rfl, hq⟩
  have HQ := Lib.hid hq
  have HB3 := Lib.hid (below_step HB2.out hq.2)
  have HX3 : Hid (w3.heap[C]? = some (.cells #[.slice ao n cap, .int .i64 E] 24 (0, 0))) := Lib.hid ((hq.2.block C (blk_lt HX2.out)).trans HX2.out)
  have HT3 := Lib.hid (HT.out.below HB3.out)
  clear hq q0
  have q1 := blk_cell HX3.out 1
  simp only [List.getElem?_toArray, List.getElem?_cons_zero, List.getElem?_cons_succ] at q1
  obtain ⟨Sp, hSp⟩ : ∃ Sp : Nat → Prop, Sp = fun k => w2.heap.size ≤ k ∧ k < w3.heap.size := ⟨_, rfl⟩
  have HPU : Hid (PAt 133 w3.drew q Sp n m b0) := Lib.hid (by rw [hSp]; exact HQ.out.1.below (below_drew _))
  have HSP : Hid (∀ k, Sp k → w2.heap.size ≤ k ∧ k < w3.heap.size) := Lib.hid (fun k hk => by rw [hSp] at hk; exact hk)
  clear hSp
  obtain ⟨B, hB⟩ : ∃ B, B = w3.heap.size := ⟨_, rfl⟩
  have HBB := Lib.hid hB
  clear hB
  go_upto_region 7 with fail
  refine wp_region_held_drew (S := fun w' => w'.cell? ⟨C, 1, none⟩ = some (.int .i64 E)) (by kernel_rfl) ?_ (fun hHeld => ?_)
  · exact q1
  refine take_at (i := 0) (d := 23) (v := ?_) rfl rfl (by kernel_rfl) (by kernel_rfl) (by kernel_rfl) (fun _ _ _ h => h) (Or.inl ⟨by rfl, by intro w' hSw; (try dsimp only at hSw); go_simp; try with_reducible rfl⟩) (by assumption) ?_
  simp only [List.setIfInBounds_toArray, List.set_cons_zero, List.set_cons_succ]
  refine take_at (i := 1) (d := 24) (v := ?_) rfl rfl (by kernel_rfl) (by kernel_rfl) (by kernel_rfl) (fun _ _ _ h => h) (Or.inl ⟨by rfl, by intro w' hSw; (try dsimp only at hSw); go_simp; try with_reducible rfl⟩) (by assumption) ?_
  simp only [List.setIfInBounds_toArray, List.set_cons_zero, List.set_cons_succ]
  refine take_at (i := 2) (d := 25) (v := ?_) rfl rfl (by kernel_rfl) (by kernel_rfl) (by kernel_rfl) (fun _ _ _ h => h) (Or.inl ⟨by rfl, by intro w' hSw; (try dsimp only at hSw); go_simp; try with_reducible rfl⟩) (by assumption) ?_
  simp only [List.setIfInBounds_toArray, List.set_cons_zero, List.set_cons_succ]
  refine take_at (i := 3) (d := 26) (v := ?_) rfl rfl (by kernel_rfl) (by kernel_rfl) (by kernel_rfl) (fun _ _ _ h => h) (Or.inl ⟨by rfl, by intro w' hSw; (try dsimp only at hSw); go_simp; try with_reducible rfl⟩) (by assumption) ?_
  simp only [List.setIfInBounds_toArray, List.set_cons_zero, List.set_cons_succ]
  refine take_at (i := 4) (d := 27) (v := ?_) rfl rfl (by kernel_rfl) (by kernel_rfl) (by kernel_rfl) (fun _ _ _ h => h) (Or.inl ⟨by rfl, by intro w' hSw; (try dsimp only at hSw); go_simp; try with_reducible rfl⟩) (by assumption) ?_
  simp only [List.setIfInBounds_toArray, List.set_cons_zero, List.set_cons_succ]
  refine wpAnyH_ready (rs := [5]) (by kernel_rfl) (by simp) ?_
  refine AllReadyH.cons rfl (fun K hK => ?_) AllReadyH.nil
  go_simp
  refine (book_new tb q n m b0 Sp w3.drew HPU.out).mono ?_
  rintro e w4 ⟨rfl, hk, hb⟩
  have hsz : w3.drew.heap.size = B := HBB.out.symm
  rw [hsz] at hk ⊢
  have hb := below_undrew hb
  have HK := Lib.hid hk
  have HB4 := Lib.hid hb
  have q14 := (World.cell?_of_block (a := ⟨C, 1, none⟩) (hb.block C (blk_lt HX3.out))).trans (blk_cell HX3.out 1)
  simp only [List.getElem?_toArray, List.getElem?_cons_zero, List.getElem?_cons_succ] at q14
  clear hk hb hsz
  dsimp only
  go_wp2_with fail
  refine hK.out _ _ ?_ (fun hHeld => ?_)
  · exact q14
  clear hK K
  try simp only [Act.put, List.getElem_toArray, List.getElem_cons_succ, List.getElem_cons_zero]
  try simp only [List.setIfInBounds_toArray, List.set_cons_zero, List.set_cons_succ]
  refine take_at (i := 6) (d := 29) (v := ?_) rfl rfl (by kernel_rfl) (by kernel_rfl) (by kernel_rfl) (fun _ _ _ h => h) (Or.inl ⟨by rfl, by intro w' hSw; (try dsimp only at hSw); go_simp; try with_reducible rfl⟩) (by assumption) ?_
  simp only [List.setIfInBounds_toArray, List.set_cons_zero, List.set_cons_succ]
  refine wpAnyH_ready (rs := [7]) (by kernel_rfl) (by simp) ?_
  refine AllReadyH.cons rfl (fun K hK => ?_) AllReadyH.nil
  go_simp
  obtain ⟨w5, hw5⟩ : ∃ w5, w5 = w4.alloc (.cells #[.slice none 0 0, .int .i64 E, .pointer (some ⟨B, 0, none⟩), .int .i64 0, .slice none 0 0] 85) := ⟨_, rfl⟩
  rw [← hw5]
  have hb5 : Below w4.heap.size w4 w5 := by rw [hw5]; exact (Below.refl _ _).alloc (Nat.le_refl _) _
  have HA5 : Hid (w5.heap[w4.heap.size]? = some (.cells #[.slice none 0 0, .int .i64 E, .pointer (some ⟨B, 0, none⟩), .int .i64 0, .slice none 0 0] 85 (0, 0))) := Lib.hid (by rw [hw5]; exact heap_alloc_new _ _)
  have HB5 := Lib.hid hb5
  have q15 := (World.cell?_of_block (a := ⟨C, 1, none⟩) (hb5.block C (Nat.lt_of_lt_of_le (blk_lt HX3.out) HB4.out.size))).trans q14
  clear hw5 hb5
  go_wp2_with fail
  refine hK.out _ _ ?_ (fun hHeld => ?_)
  · exact q15
  clear hK K
  try simp only [Act.put, List.getElem_toArray, List.getElem_cons_succ, List.getElem_cons_zero]
  try simp only [List.setIfInBounds_toArray, List.set_cons_zero, List.set_cons_succ]
  refine take_at (i := 8) (d := 4) (v := ?_) rfl rfl (by kernel_rfl) (by kernel_rfl) (by kernel_rfl) (fun _ _ _ h => h) (Or.inl ⟨by rfl, by intro w' hSw; (try dsimp only at hSw); go_simp; try with_reducible rfl⟩) (by assumption) ?_
  simp only [List.setIfInBounds_toArray, List.set_cons_zero, List.set_cons_succ]
  refine take_at (i := 9) (d := 5) (v := ?_) rfl rfl (by kernel_rfl) (by kernel_rfl) (by kernel_rfl) (fun _ _ _ h => h) (Or.inl ⟨by rfl, by intro w' hSw; (try dsimp only at hSw); go_simp; try with_reducible rfl⟩) (by assumption) ?_
  simp only [List.setIfInBounds_toArray, List.set_cons_zero, List.set_cons_succ]
  refine wpAnyH_done (by kernel_rfl) ?_ _
  clear hHeld
  go_wp2
  go_ret2
  have hs2 := HB2.out.size
  have hs3 := HQ.out.2.size
  have hs4 := HB4.out.size
  have hW := HWW.out.size
  have hBe := HBB.out
  have hbw : Below w.heap.size w w5 := below_step (below_step HB3.out HB4.out) HB5.out
  have hB4 : B < w4.heap.size := blk_lt HK.out.box
  have htl := HT.out.lt
  have hnew : ∀ i, (fpK Sp B (.slice none 0 0) i ∨ i = tb) → i = tb ∨ w.heap.size ≤ i := by
    rintro i ((rfl | hi | hi) | rfl)
    · exact Or.inr (by omega)
    · cases hi
    · exact Or.inr (by have := (HSP.out i hi).1; omega)
    · exact Or.inl rfl
  have hgood := HG.out
  have heb : EB (fun i => fpK Sp B (.slice none 0 0) i ∨ i = tb) W w5 n m b0 [] (fun j => tot b0 j n) B tb q := by
    refine ⟨Sp, .slice none 0 0, HK.out.below HB5.out, fun h => by have := (HSP.out tb h).1; omega, (HT3.out.below HB4.out).below HB5.out, ⟨hgood, fun x hx => by simp at hx, fun j hj => by show tot b0 j n + 0 = _; omega, fun j hj => hgood.sum j hj, by simp⟩, below_step HWW.out hbw, fun i => Iff.rfl, fun i hi => ?_⟩
    rcases hnew i hi with h | h
    · have := HTW.out; omega
    · omega
  refine ⟨fun i => (fpK Sp B (.slice none 0 0) i ∨ i = tb) ∨ i = w4.heap.size ∨ (Value.slice none 0 0).ownBlock = some i, w4.heap.size, B, q, rfl, ⟨_, .slice none 0 0, ⟨heb, HA5.out, World.ownsRow_nil _ _ _ _, ?_, (fun g hg => by cases hg), (by omega), (fun g hg => by cases hg)⟩, ⟨heb.inv, by show (0 : Int) + 0 ≤ E; have := HE.out; omega, HE.out, ⟨Int.le_refl _, by show (0 : Int) ≤ MT; unfold MT; omega⟩, Nat.le_refl _⟩, fun i => Iff.rfl⟩, hbw, ?_⟩
  · rintro ((h | h | h) | h)
    · omega
    · cases h
    · have := (HSP.out _ h).2; omega
    · omega
  · rintro i (hi | rfl | hi)
    · exact hnew i hi
    · exact Or.inr (by omega)
    · cases hi

end Go.Proofs.YtkaciaehlibidaaGreat
