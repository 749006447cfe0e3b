/- Parts of the proof: Le5a. -/
import Derived.Test.YtkaciaehlibidaaGreatZ16
import Derived.Test.YtkaciaehlibidaaGreatZ18
import Derived.Deep.CutBlock
import Derived.Deep.DeepCutAuto
namespace Go.Proofs.YtkaciaehlibidaaGreat
open Go.RowKit
set_option linter.unusedVariables false
set_option linter.unusedSimpArgs false
def RP.list (r : Int × Int) : List Value := [.int .i64 r.1, .int .i64 r.2]
def noD : DN := ⟨0, 0, noE⟩
theorem Try_infoRp : (Tryz.prog.info? 50).map (fun i => (i.zero, i.size, i.bytes)) = some (some (.agg #[.int .i64 0, .int .i64 0]), 2, 16) := by kernel_rfl
theorem Try_infoDn : (Tryz.prog.info? 106).map (fun i => (i.zero, i.size, i.bytes)) = some (some (.agg noD.cells), 11, 104) := by kernel_rfl
theorem dn_one (d : DN) : ∀ u ∈ d.list, u.oneCell' = true := by
 intro u hu
 simp only [DN.list, DN.cells, List.mem_cons, List.not_mem_nil, or_false] at hu
 rcases hu with e | e | e | e | e | e | e | e | e | e | e <;> rw [e] <;> rfl
theorem rp_one (d : Int × Int) : ∀ u ∈ RP.list d, u.oneCell' = true := by
 intro u hu
 simp only [RP.list, List.mem_cons, List.not_mem_nil, or_false] at hu
 rcases hu with e | e <;> rw [e] <;> rfl
theorem reps_of_own {w : World} {ao : Option Addr} {n c : Nat} {ys : List (Int × Int)} (hn : ys.length = n) (h : w.ownsRow 0 50 2 (.slice ao n c) n (ys.flatMap RP.list)) : RepsAt w ao ys := by
 by_cases h0 : n = 0
 · exact Or.inl (List.eq_nil_of_length_eq_zero (by omega))
 · obtain ⟨g, rfl, hc⟩ := own_cell h (by omega)
   refine Or.inr ⟨g, 0, rfl, fun i hi => ?_⟩
   have f0 := flat_get RP.list 2 (fun _ => rfl) ys i hi 0 (by omega)
   have f1 := flat_get RP.list 2 (fun _ => rfl) ys i hi 1 (by omega)
   rw [Nat.zero_add]
   exact ⟨hc _ _ f0, hc _ _ f1⟩
theorem RepsAt.keep {S : Nat → Prop} {w w' : World} {ao : Option Addr} {ys : List (Int × Int)} (h : RepsAt w ao ys) (hk : Keeps S w w') (hn : ∀ a, ao = some a → ¬ S a.block) : RepsAt w' ao ys := by
 rcases h with h | ⟨b, off, rfl, h2⟩
 · exact Or.inl h
 · refine Or.inr ⟨b, off, rfl, fun i hi => ?_⟩
   obtain ⟨c0, c1⟩ := h2 i hi
   have hb := hk.block b (World.block_lt_of_cell? w _ c0) (hn _ rfl)
   exact ⟨(World.cell?_of_block hb).trans c0, (World.cell?_of_block hb).trans c1⟩
theorem EvsAt.keep {S : Nat → Prop} {w w' : World} {ao : Option Addr} {es : List EV} (h : EvsAt w ao es) (hk : Keeps S w w') (hn : ∀ a, ao = some a → ¬ S a.block) : EvsAt w' ao es := by
 rcases h with h | ⟨b, off, rfl, h2⟩
 · exact Or.inl h
 · refine Or.inr ⟨b, off, rfl, fun i hi j u hu => ?_⟩
   have c := h2 i hi j u hu
   exact (World.cell?_of_block (hk.block b (World.block_lt_of_cell? w _ c) (hn _ rfl))).trans c
theorem RqsAt.keep {S : Nat → Prop} {w w' : World} {ao : Option Addr} {rs : List RQ} (h : RqsAt w ao rs) (hk : Keeps S w w') (hn : ∀ a, ao = some a → ¬ S a.block) : RqsAt w' ao rs := by
 rcases h with h | ⟨b, off, rfl, h2⟩
 · exact Or.inl h
 · refine Or.inr ⟨b, off, rfl, fun i hi j u hu => ?_⟩
   have c := h2 i hi j u hu
   exact (World.cell?_of_block (hk.block b (World.block_lt_of_cell? w _ c) (hn _ rfl))).trans c
theorem slice_rq (ro : Option Addr) (q rc hi : Nat) (h2 : hi ≤ rc) (w : World) :
 (Instr.slice 39 (.slice ro q rc) none (some (.int .i64 (hi : Int))) none).run Tryz.prog w = .ok (.slice ro hi rc) w := by
 have hu := Tryz.underlying39
 have hce : Tryz.prog.cellsOf 52 = 8 := by kernel_rfl
 cases ro with
 | none => simp [go_sem, hu, h2]
 | some a => simp [go_sem, hu, h2, Addr.add]
section
variable {S S' Sb : Nat → Prop} {W w w' : World} {n m : Nat} {E : Int} {s : LS} {T : Nat → Int} {A B tb q : Nat} {v v' : Value}
theorem LDat.tick (h : LDat Sb W w n m E s T A B tb q v) (ck : Int) : LDat Sb W (w.setCell ⟨A, 3, none⟩ (.int .i64 ck)) n m E ⟨s.b, s.l, ck, s.es⟩ T A B tb q v := by
 have hk : Keeps (fun i => i = A) w (w.setCell ⟨A, 3, none⟩ (.int .i64 ck)) := (Keeps.refl (fun i => i = A) w).setCell (p := ⟨A, 3, none⟩) (Or.inl rfl) _
 exact ⟨h.eb.keep hk (fun i e hs => h.nA (e ▸ hs)) (fun i e => e ▸ h.oA), by simpa using blk_set h.box 3 (.int .i64 ck), ownsRow_same h.row (fun g hg => hk.block g (h.row.lt g hg).2 (h.vA g hg)), h.nA, h.nv, h.oA, h.ov⟩
theorem LDat.grow (h : LDat Sb W w n m E s T A B tb q v) (d : DN) (hown : w'.ownsRow 0 106 11 v' (s.es.length + 1) ((s.es ++ [d]).flatMap DN.list)) (hk : Keeps (fun i => v.ownBlock = some i) w w') (hat : ∀ g, v'.ownBlock = some g → v.ownBlock = some g ∨ w.heap.size ≤ g) :
 LDat Sb W (w'.setCell ⟨A, 4, none⟩ v') n m E ⟨s.b, s.l, s.ck, s.es ++ [d]⟩ T A B tb q v' := by
 have hvA := h.vA
 have hAl := blk_lt h.box
 have hbox : w'.heap[A]? = some (.cells #[.slice none 0 0, .int .i64 E, .pointer (some ⟨B, 0, none⟩), .int .i64 s.ck, v] 85 (0, 0)) := (hk.block A hAl (fun e => hvA A e rfl)).trans h.box
 have hWs := h.eb.bel.size
 have hk2 : Keeps (fun i => i = A) w' (w'.setCell ⟨A, 4, none⟩ v') := (Keeps.refl (fun i => i = A) w').setCell (p := ⟨A, 4, none⟩) (Or.inl rfl) _
 have hne : ∀ g, v'.ownBlock = some g → g ≠ A := fun g hg => by
  rcases hat g hg with e | e
  · exact hvA g e
  · omega
 refine ⟨(h.eb.keep hk (fun i e => h.nv i e) (fun i e => h.ov i e)).keep hk2 (fun i e hs => h.nA (e ▸ hs)) (fun i e => e ▸ h.oA), by simpa using blk_set hbox 4 v', ?_, h.nA, fun g hg hs => ?_, h.oA, fun g hg => ?_⟩
 · have e : (s.es ++ [d]).length = s.es.length + 1 := by simp
   show World.ownsRow _ 0 106 11 v' (s.es ++ [d]).length ((s.es ++ [d]).flatMap DN.list)
   rw [e]
   exact ownsRow_same hown (fun g hg => hk2.block g (hown.lt g hg).2 (hne g hg))
 · rcases hat g hg with e | e
   · exact h.nv g e hs
   · have := h.eb.lt g hs; omega
 · rcases hat g hg with e | e
   · exact h.ov g e
   · omega
end
structure ApAt (S : Nat → Prop) (W w0 w : World) (n m : Nat) (E : Int) (s : LS) (T : Nat → Int) (A B tb q N Z Q : Nat) (seen : Int) (ro : Option Addr) (rn rc : Nat) (ys : List (Int × Int)) (vy : Value) (S' : Nat → Prop) : Prop where
 ld : LD S' W w n m E s T A B tb q
 kp : Keeps S w0 w
 nw : ∀ i, S' i → S i ∨ w0.heap.size ≤ i
 nb : w.heap[N]? = some (.cells #[.int .i64 s.ck, .int .i64 0, vy, .slice none 0 0] 37 (0, 0))
 zb : ∃ a0 a1 a2 a3, w.heap[Z]? = some (.cells #[a0, a1, a2, a3] 37 (0, 0))
 qb : w.heap[Q]? = some (.cells #[.int .i64 seen, .slice ro rn rc] 41 (0, 0))
 row : w.ownsRow 0 50 2 vy ys.length (ys.flatMap RP.list)
 ap : ¬ S' N ∧ ¬ S' Z ∧ ¬ S' Q ∧ N ≠ Z ∧ N ≠ Q ∧ Z ≠ Q
 ay : ∀ g, vy.ownBlock = some g → ¬ S' g
 oN : w0.heap.size ≤ N ∧ w0.heap.size ≤ Z ∧ w0.heap.size ≤ Q
 oy : ∀ g, vy.ownBlock = some g → w0.heap.size ≤ g
section
variable {S S' S2 : Nat → Prop} {W w0 w w' : World} {n m : Nat} {E : Int} {s s2 : LS} {T : Nat → Int} {A B tb q N Z Q : Nat} {seen : Int} {ro : Option Addr} {rn rc : Nat} {ys : List (Int × Int)} {vy vy' : Value}
theorem ApAt.nY (h : ApAt S W w0 w n m E s T A B tb q N Z Q seen ro rn rc ys vy S') : ∀ g, vy.ownBlock = some g → g ≠ N ∧ g ≠ Z ∧ g ≠ Q := fun g hg => by
 obtain ⟨cur, h1⟩ := row_ty h.row hg
 obtain ⟨a0, a1, a2, a3, hz⟩ := h.zb
 exact ⟨TyAt.ne ⟨_, _, h.nb⟩ h1 (by decide), TyAt.ne ⟨_, _, hz⟩ h1 (by decide), TyAt.ne ⟨_, _, h.qb⟩ h1 (by decide)⟩
theorem ApAt.turn (h : ApAt S W w0 w n m E s T A B tb q N Z Q seen ro rn rc ys vy S') (hd : LD S2 W w' n m E s2 T A B tb q) (hk : Keeps S' w w') (hn : ∀ i, S2 i → S' i ∨ w.heap.size ≤ i) (hc : s2.ck = s.ck) : ApAt S W w0 w' n m E s2 T A B tb q N Z Q seen ro rn rc ys vy S2 := by
 obtain ⟨a0, a1, a2, a3, hz⟩ := h.zb
 have hN := blk_lt h.nb
 have hZ := blk_lt hz
 have hQ := blk_lt h.qb
 have hap := h.ap
 have hne : ∀ i, ¬ S' i → i < w.heap.size → ¬ S2 i := fun i h1 h2 h3 => by
  rcases hn i h3 with e | e
  · exact h1 e
  · omega
 refine ⟨hd, h.kp.trans hk h.nw, fun i hi => ?_, ?_, ⟨a0, a1, a2, a3, (hk.block Z hZ hap.2.1).trans hz⟩, (hk.block Q hQ hap.2.2.1).trans h.qb, ownsRow_same h.row (fun g hg => hk.block g (h.row.lt g hg).2 (h.ay g hg)), ⟨hne N hap.1 hN, hne Z hap.2.1 hZ, hne Q hap.2.2.1 hQ, hap.2.2.2⟩, fun g hg => hne g (h.ay g hg) (h.row.lt g hg).2, h.oN, h.oy⟩
 · rcases hn i hi with e | e
   · exact h.nw i e
   · exact Or.inr (Nat.le_trans h.kp.size e)
 · rw [hc]; exact (hk.block N hN hap.1).trans h.nb
theorem ApAt.below (h : ApAt S W w0 w n m E s T A B tb q N Z Q seen ro rn rc ys vy S') (hb : Below w.heap.size w w') : ApAt S W w0 w' n m E s T A B tb q N Z Q seen ro rn rc ys vy S' :=
 h.turn (h.ld.below hb) (Keeps.of_below hb) (fun i hi => Or.inl hi) rfl
theorem ApAt.reply (h : ApAt S W w0 w n m E s T A B tb q N Z Q seen ro rn rc ys vy S') (y : Int × Int) (hW : W.heap.size ≤ w0.heap.size) (hown : w'.ownsRow 0 50 2 vy' (ys.length + 1) ((ys ++ [y]).flatMap RP.list)) (hk : Keeps (fun i => vy.ownBlock = some i) w w') (hat : ∀ g, vy'.ownBlock = some g → vy.ownBlock = some g ∨ w.heap.size ≤ g) :
 ApAt S W w0 (w'.setCell ⟨N, 2, none⟩ vy') n m E s T A B tb q N Z Q seen ro rn rc (ys ++ [y]) vy' S' := by
 obtain ⟨a0, a1, a2, a3, hz⟩ := h.zb
 have hN := blk_lt h.nb
 have hZ := blk_lt hz
 have hQ := blk_lt h.qb
 have hap := h.ap
 have hoN := h.oN
 have hy := h.nY
 have hk2 : Keeps (fun i => i = N) w' (w'.setCell ⟨N, 2, none⟩ vy') := (Keeps.refl (fun i => i = N) w').setCell (p := ⟨N, 2, none⟩) (Or.inl rfl) _
 have hnb : w'.heap[N]? = some (.cells #[.int .i64 s.ck, .int .i64 0, vy, .slice none 0 0] 37 (0, 0)) := (hk.block N hN (fun e => (hy N e).1 rfl)).trans h.nb
 have hks : Keeps (fun i => vy.ownBlock = some i ∨ i = N) w (w'.setCell ⟨N, 2, none⟩ vy') := (hk.mono (S' := fun i => vy.ownBlock = some i ∨ i = N) (fun _ _ hh => Or.inl hh)).trans hk2 (fun i hi => Or.inl (Or.inr hi))
 have hne : ∀ g, vy'.ownBlock = some g → g ≠ N := fun g hg => by
  rcases hat g hg with e | e
  · exact (hy g e).1
  · omega
 refine ⟨h.ld.keep hks (fun i hi => ?_) (fun i hi => ?_), h.kp.trans hks (fun i hi => ?_), h.nw, by simpa using blk_set hnb 2 vy', ⟨a0, a1, a2, a3, (hks.block Z hZ ?_).trans hz⟩, (hks.block Q hQ ?_).trans h.qb, ?_, hap, fun g hg hs => ?_, hoN, fun g hg => ?_⟩
 · rcases hi with e | e
   · exact h.ay i e
   · exact e ▸ hap.1
 · rcases hi with e | e
   · exact Nat.le_trans hW (h.oy i e)
   · omega
 · rcases hi with e | e
   · exact Or.inr (h.oy i e)
   · exact Or.inr (by omega)
 · rintro (e | e)
   · exact (hy Z e).2.1 rfl
   · exact hap.2.2.2.1 e.symm
 · rintro (e | e)
   · exact (hy Q e).2.2 rfl
   · exact hap.2.2.2.2.1 e.symm
 · have e : (ys ++ [y]).length = ys.length + 1 := by simp
   rw [e]
   exact ownsRow_same hown (fun g hg => hk2.block g (hown.lt g hg).2 (hne g hg))
 · rcases hat g hg with e | e
   · exact h.ay g e hs
   · have := h.ld.lt g hs; omega
 · rcases hat g hg with e | e
   · exact h.oy g e
   · exact Nat.le_trans h.kp.size e
end
def AppPost (S : Nat → Prop) (W w : World) (n m : Nat) (E : Int) (s : LS) (T : Nat → Int) (A B tb q : Nat) (ys : List (Int × Int)) (es : List EV) (e : Ending) (w' : World) : Prop :=
 ∃ ra rc ea ec, e = .returned (.agg #[.int .i64 s.ck, .int .i64 (s.es.length : Int), .slice ra ys.length rc, .slice ea es.length ec]) ∧ RepsAt w' ra ys ∧ EvsAt w' ea es ∧ (ys.length ≤ rc ∧ rc ≤ maxLen) ∧ (es.length ≤ ec ∧ ec ≤ maxLen) ∧
  ∃ S', LD S' W w' n m E s T A B tb q ∧ Keeps S w w' ∧ (∀ i, S' i → S i ∨ w.heap.size ≤ i) ∧ (∀ a, ra = some a → ¬ S' a.block ∧ w.heap.size ≤ a.block) ∧ ∀ a, ea = some a → ¬ S' a.block ∧ w.heap.size ≤ a.block
structure ApE (S : Nat → Prop) (W w0 w : World) (n m : Nat) (E : Int) (s : LS) (T : Nat → Int) (A B tb q N Z : Nat) (ra : Option Addr) (rc : Nat) (ys : List (Int × Int)) (ea : Option Addr) (ec : Nat) (es : List EV) (S' : Nat → Prop) : Prop where
 ld : LD S' W w n m E s T A B tb q
 kp : Keeps S w0 w
 nw : ∀ i, S' i → S i ∨ w0.heap.size ≤ i
 nb : w.heap[N]? = some (.cells #[.int .i64 s.ck, .int .i64 (s.es.length : Int), .slice ra ys.length rc, .slice ea es.length ec] 37 (0, 0))
 zb : ∃ a0 a1 a2 a3, w.heap[Z]? = some (.cells #[a0, a1, a2, a3] 37 (0, 0))
 rp : RepsAt w ra ys
 ev : EvsAt w ea es
 ap : ¬ S' N ∧ ¬ S' Z ∧ N ≠ Z
 oN : W.heap.size ≤ w0.heap.size ∧ w0.heap.size ≤ N ∧ w0.heap.size ≤ Z
 ar : ∀ a, ra = some a → ¬ S' a.block ∧ a.block ≠ N ∧ a.block ≠ Z ∧ w0.heap.size ≤ a.block
 ae : ∀ a, ea = some a → ¬ S' a.block ∧ a.block ≠ N ∧ a.block ≠ Z ∧ w0.heap.size ≤ a.block
 rb : ys.length ≤ rc ∧ rc ≤ maxLen
 eb : es.length ≤ ec ∧ ec ≤ maxLen
def fillA (w : World) (Z : Nat) (a0 a1 a2 a3 : Value) : World := (((w.setCell ⟨Z, 0, none⟩ a0).setCell ⟨Z, 1, none⟩ a1).setCell ⟨Z, 2, none⟩ a2).setCell ⟨Z, 3, none⟩ a3
theorem fillA_keeps (w : World) (Z : Nat) (a0 a1 a2 a3 : Value) : Keeps (fun k => k = Z) w (fillA w Z a0 a1 a2 a3) :=
 ((((Keeps.refl (fun k => k = Z) w).setCell (p := ⟨Z, 0, none⟩) (Or.inl rfl) _).setCell (p := ⟨Z, 1, none⟩) (Or.inl rfl) _).setCell (p := ⟨Z, 2, none⟩) (Or.inl rfl) _).setCell (p := ⟨Z, 3, none⟩) (Or.inl rfl) _
theorem fillA_box {w : World} {Z : Nat} {b0 b1 b2 b3 : Value} (h : w.heap[Z]? = some (.cells #[b0, b1, b2, b3] 37 (0, 0))) (a0 a1 a2 a3 : Value) : (fillA w Z a0 a1 a2 a3).heap[Z]? = some (.cells #[a0, a1, a2, a3] 37 (0, 0)) := by
 unfold fillA
 simpa using blk_set (blk_set (blk_set (blk_set h 0 a0) 1 a1) 2 a2) 3 a3
theorem own_blk {w : World} {e : TypeId} {sz n c : Nat} {ao : Option Addr} {xs : List Value} (h : w.ownsRow 0 e sz (.slice ao n c) n xs) (a : Addr) (ha : ao = some a) : (Value.slice ao n c).ownBlock = some a.block := by
 subst ha; rfl
section
variable {S S' : Nat → Prop} {W w0 w w' : World} {n m : Nat} {E : Int} {s : LS} {T : Nat → Int} {A B tb q N Z Q : Nat} {seen : Int} {ro : Option Addr} {rn rc0 : Nat} {ys : List (Int × Int)} {ra ea : Option Addr} {rc ec : Nat} {es : List EV}
theorem ApAt.end_ (h : ApAt S W w0 w n m E s T A B tb q N Z Q seen ro rn rc0 ys (.slice ra ys.length rc) S') (hW : W.heap.size ≤ w0.heap.size) :
 ApE S W w0 (w.setCell ⟨N, 1, none⟩ (.int .i64 (s.es.length : Int))) n m E s T A B tb q N Z ra rc ys none 0 [] S' := by
 obtain ⟨a0, a1, a2, a3, hz⟩ := h.zb
 have hap := h.ap
 have hoN := h.oN
 have hk : Keeps (fun i => i = N) w (w.setCell ⟨N, 1, none⟩ (.int .i64 (s.es.length : Int))) := (Keeps.refl (fun i => i = N) w).setCell (p := ⟨N, 1, none⟩) (Or.inl rfl) _
 have hrow := reps_of_own rfl h.row
 have hb : ∀ a, ra = some a → (Value.slice ra ys.length rc).ownBlock = some a.block := fun a ha => own_blk h.row a ha
 obtain ⟨_, _, hsh, hsl, hsm⟩ := own_shape h.row
 simp only [Value.slice.injEq] at hsh
 refine ⟨h.ld.keep hk (fun i e => e ▸ hap.1) (fun i e => by omega), h.kp.trans hk (fun i e => Or.inr (by omega)), h.nw, by simpa using blk_set h.nb 1 (.int .i64 (s.es.length : Int)), ⟨a0, a1, a2, a3, (hk.block Z (blk_lt hz) (fun e => hap.2.2.2.1 e.symm)).trans hz⟩, hrow.keep hk (fun a ha e => (h.nY _ (hb a ha)).1 e), Or.inl rfl, ⟨hap.1, hap.2.1, hap.2.2.2.1⟩, ⟨hW, hoN.1, hoN.2.1⟩, fun a ha => ⟨h.ay _ (hb a ha), (h.nY _ (hb a ha)).1, (h.nY _ (hb a ha)).2.1, h.oy _ (hb a ha)⟩, (fun a ha => by cases ha), ⟨by rw [hsh.2.2]; exact hsl, by rw [hsh.2.2]; exact hsm⟩, ⟨Nat.le_refl _, Nat.zero_le _⟩⟩
theorem ApE.below (h : ApE S W w0 w n m E s T A B tb q N Z ra rc ys ea ec es S') (hb : Below w.heap.size w w') : ApE S W w0 w' n m E s T A B tb q N Z ra rc ys ea ec es S' := by
 obtain ⟨a0, a1, a2, a3, hz⟩ := h.zb
 have hk : Keeps (fun _ => False) w w' := Keeps.of_below hb
 exact ⟨h.ld.below hb, h.kp.trans hk (fun i f => f.elim), h.nw, (hb.block N (blk_lt h.nb)).trans h.nb, ⟨a0, a1, a2, a3, (hb.block Z (blk_lt hz)).trans hz⟩, h.rp.keep hk (fun _ _ f => f), h.ev.keep hk (fun _ _ f => f), h.ap, h.oN, h.ar, h.ae, h.rb, h.eb⟩
theorem ApE.evs (h : ApE S W w0 w n m E s T A B tb q N Z ra rc ys none 0 [] S') (he : EvsAt w ea es) (hc : es.length ≤ ec ∧ ec ≤ maxLen) (ha : ∀ a, ea = some a → ¬ S' a.block ∧ a.block ≠ N ∧ a.block ≠ Z ∧ w0.heap.size ≤ a.block) :
 ApE S W w0 (w.setCell ⟨N, 3, none⟩ (.slice ea es.length ec)) n m E s T A B tb q N Z ra rc ys ea ec es S' := by
 obtain ⟨a0, a1, a2, a3, hz⟩ := h.zb
 have hk : Keeps (fun i => i = N) w (w.setCell ⟨N, 3, none⟩ (.slice ea es.length ec)) := (Keeps.refl (fun i => i = N) w).setCell (p := ⟨N, 3, none⟩) (Or.inl rfl) _
 have hoN := h.oN
 exact ⟨h.ld.keep hk (fun i e => e ▸ h.ap.1) (fun i e => by omega), h.kp.trans hk (fun i e => Or.inr (by omega)), h.nw, by simpa using blk_set h.nb 3 (.slice ea es.length ec), ⟨a0, a1, a2, a3, (hk.block Z (blk_lt hz) (fun e => h.ap.2.2 e.symm)).trans hz⟩, h.rp.keep hk (fun a ha e => (h.ar a ha).2.1 e), he.keep hk (fun a h2 e => (ha a h2).2.1 e), h.ap, h.oN, h.ar, ha, h.rb, hc⟩
theorem ApE.fin (h : ApE S W w0 w n m E s T A B tb q N Z ra rc ys ea ec es S') (a0 a1 a2 a3 : Value) (hw : Below w.heap.size w w' ∨ w' = w) :
 AppPost S W w0 n m E s T A B tb q ys es (.returned (.agg #[.int .i64 s.ck, .int .i64 (s.es.length : Int), .slice ra ys.length rc, .slice ea es.length ec])) (fillA w Z a0 a1 a2 a3) := by
 have hk := fillA_keeps w Z a0 a1 a2 a3
 have hoN := h.oN
 refine ⟨ra, rc, ea, ec, rfl, h.rp.keep hk (fun a ha e => (h.ar a ha).2.2.1 e), h.ev.keep hk (fun a ha e => (h.ae a ha).2.2.1 e), h.rb, h.eb, S', h.ld.keep hk (fun i e => e ▸ h.ap.2.1) (fun i e => by omega), h.kp.trans hk (fun i e => Or.inr (by omega)), h.nw, fun a ha => ⟨(h.ar a ha).1, (h.ar a ha).2.2.2⟩, fun a ha => ⟨(h.ae a ha).1, (h.ae a ha).2.2.2⟩⟩
end
end Go.Proofs.YtkaciaehlibidaaGreat
