/- Parts of the proof: Lx3a Lpd Lx2b. -/
import Derived.Test.YtkaciaehlibidaaGreatZ01
import Derived.Test.YtkaciaehlibidaaGreatZ19
import Derived.Test.YtkaciaehlibidaaGreatZ21
import Derived.Deep.RegionHeld3
namespace Go.Proofs.YtkaciaehlibidaaGreat
open Go.RowKit
set_option linter.unusedVariables false
set_option linter.unusedSimpArgs false
structure XApAt (S : Nat → Prop) (W w0 w : World) (n m : Nat) (E : Int) (s : LS) (T : Nat → Int) (X B q N Z Q : Nat) (seen : Int) (ro : Option Addr) (rn rc : Nat) (ys : List (Int × Int)) (vy : Value) (S' : Nat → Prop) : Prop where
 ld : XL S' W w n m E s T X B q
 kp : Keeps S w0 w
 nw : ∀ i, S' i → S i ∨ w0.heap.size ≤ i
 nb : w.heap[N]? = some (.cells #[.int .i64 0, .int .i64 0, vy, .slice none 0 0] 37 (0, 0))
 zb : ∃ a0 a1 a2 a3, w.heap[Z]? = some (.cells #[a0, a1, a2, a3] 37 (0, 0))
 qb : w.heap[Q]? = some (.cells #[.int .i64 seen, .slice ro rn rc] 41 (0, 0))
 row : w.ownsRow 0 50 2 vy ys.length (ys.flatMap RP.list)
 ap : ¬ S' N ∧ ¬ S' Z ∧ ¬ S' Q ∧ N ≠ Z ∧ N ≠ Q ∧ Z ≠ Q
 ay : ∀ g, vy.ownBlock = some g → ¬ S' g
 oN : w0.heap.size ≤ N ∧ w0.heap.size ≤ Z ∧ w0.heap.size ≤ Q
 oy : ∀ g, vy.ownBlock = some g → w0.heap.size ≤ g
section
variable {S S' S2 : Nat → Prop} {W w0 w w' : World} {n m : Nat} {E : Int} {s s2 : LS} {T : Nat → Int} {X B q N Z Q : Nat} {seen : Int} {ro : Option Addr} {rn rc : Nat} {ys : List (Int × Int)} {vy vy' : Value}
theorem XApAt.nY (h : XApAt S W w0 w n m E s T X B q N Z Q seen ro rn rc ys vy S') : ∀ g, vy.ownBlock = some g → g ≠ N ∧ g ≠ Z ∧ g ≠ Q := fun g hg => by
 obtain ⟨cur, h1⟩ := row_ty h.row hg
 obtain ⟨a0, a1, a2, a3, hz⟩ := h.zb
 exact ⟨TyAt.ne ⟨_, _, h.nb⟩ h1 (by decide), TyAt.ne ⟨_, _, hz⟩ h1 (by decide), TyAt.ne ⟨_, _, h.qb⟩ h1 (by decide)⟩
theorem XApAt.turn (h : XApAt S W w0 w n m E s T X B q N Z Q seen ro rn rc ys vy S') (hd : XL S2 W w' n m E s2 T X B q) (hk : Keeps S' w w') (hn : ∀ i, S2 i → S' i ∨ w.heap.size ≤ i) : XApAt S W w0 w' n m E s2 T X B q N Z Q seen ro rn rc ys vy S2 := by
 obtain ⟨a0, a1, a2, a3, hz⟩ := h.zb
 have hN := blk_lt h.nb
 have hZ := blk_lt hz
 have hQ := blk_lt h.qb
 have hap := h.ap
 have hne : ∀ i, ¬ S' i → i < w.heap.size → ¬ S2 i := fun i h1 h2 h3 => by
  rcases hn i h3 with e | e
  · exact h1 e
  · omega
 refine ⟨hd, h.kp.trans hk h.nw, fun i hi => ?_, ?_, ⟨a0, a1, a2, a3, (hk.block Z hZ hap.2.1).trans hz⟩, (hk.block Q hQ hap.2.2.1).trans h.qb, ownsRow_same h.row (fun g hg => hk.block g (h.row.lt g hg).2 (h.ay g hg)), ⟨hne N hap.1 hN, hne Z hap.2.1 hZ, hne Q hap.2.2.1 hQ, hap.2.2.2⟩, fun g hg => hne g (h.ay g hg) (h.row.lt g hg).2, h.oN, h.oy⟩
 · rcases hn i hi with e | e
   · exact h.nw i e
   · exact Or.inr (Nat.le_trans h.kp.size e)
 · exact (hk.block N hN hap.1).trans h.nb
theorem XApAt.below (h : XApAt S W w0 w n m E s T X B q N Z Q seen ro rn rc ys vy S') (hb : Below w.heap.size w w') : XApAt S W w0 w' n m E s T X B q N Z Q seen ro rn rc ys vy S' :=
 h.turn (h.ld.below hb) (Keeps.of_below hb) (fun i hi => Or.inl hi)
theorem XApAt.reply (h : XApAt S W w0 w n m E s T X B q N Z Q seen ro rn rc ys vy S') (y : Int × Int) (hW : W.heap.size ≤ w0.heap.size) (hown : w'.ownsRow 0 50 2 vy' (ys.length + 1) ((ys ++ [y]).flatMap RP.list)) (hk : Keeps (fun i => vy.ownBlock = some i) w w') (hat : ∀ g, vy'.ownBlock = some g → vy.ownBlock = some g ∨ w.heap.size ≤ g) :
 XApAt S W w0 (w'.setCell ⟨N, 2, none⟩ vy') n m E s T X B q N Z Q seen ro rn rc (ys ++ [y]) vy' S' := by
 obtain ⟨a0, a1, a2, a3, hz⟩ := h.zb
 have hN := blk_lt h.nb
 have hZ := blk_lt hz
 have hQ := blk_lt h.qb
 have hap := h.ap
 have hoN := h.oN
 have hy := h.nY
 have hk2 : Keeps (fun i => i = N) w' (w'.setCell ⟨N, 2, none⟩ vy') := (Keeps.refl (fun i => i = N) w').setCell (p := ⟨N, 2, none⟩) (Or.inl rfl) _
 have hnb : w'.heap[N]? = some (.cells #[.int .i64 0, .int .i64 0, vy, .slice none 0 0] 37 (0, 0)) := (hk.block N hN (fun e => (hy N e).1 rfl)).trans h.nb
 have hks : Keeps (fun i => vy.ownBlock = some i ∨ i = N) w (w'.setCell ⟨N, 2, none⟩ vy') := (hk.mono (S' := fun i => vy.ownBlock = some i ∨ i = N) (fun _ _ hh => Or.inl hh)).trans hk2 (fun i hi => Or.inl (Or.inr hi))
 have hne : ∀ g, vy'.ownBlock = some g → g ≠ N := fun g hg => by
  rcases hat g hg with e | e
  · exact (hy g e).1
  · omega
 refine ⟨h.ld.keep hks (fun i hi => ?_) (fun i hi => ?_), h.kp.trans hks (fun i hi => ?_), h.nw, by simpa using blk_set hnb 2 vy', ⟨a0, a1, a2, a3, (hks.block Z hZ ?_).trans hz⟩, (hks.block Q hQ ?_).trans h.qb, ?_, hap, fun g hg hs => ?_, hoN, fun g hg => ?_⟩
 · rcases hi with e | e
   · exact h.ay i e
   · exact e ▸ hap.1
 · rcases hi with e | e
   · exact Nat.le_trans hW (h.oy i e)
   · omega
 · rcases hi with e | e
   · exact Or.inr (h.oy i e)
   · exact Or.inr (by omega)
 · rintro (e | e)
   · exact (hy Z e).2.1 rfl
   · exact hap.2.2.2.1 e.symm
 · rintro (e | e)
   · exact (hy Q e).2.2 rfl
   · exact hap.2.2.2.2.1 e.symm
 · have e : (ys ++ [y]).length = ys.length + 1 := by simp
   rw [e]
   exact ownsRow_same hown (fun g hg => hk2.block g (hown.lt g hg).2 (hne g hg))
 · rcases hat g hg with e | e
   · exact h.ay g e hs
   · have := h.ld.lt g hs; omega
 · rcases hat g hg with e | e
   · exact h.oy g e
   · exact Nat.le_trans h.kp.size e
end
def XAppPost (S : Nat → Prop) (W w : World) (n m : Nat) (E : Int) (s : LS) (T : Nat → Int) (X B q : Nat) (ys : List (Int × Int)) (es : List EV) (e : Ending) (w' : World) : Prop :=
 ∃ ra rc ea ec, e = .returned (.agg #[.int .i64 s.ck, .int .i64 (s.es.length : Int), .slice ra ys.length rc, .slice ea es.length ec]) ∧ RepsAt w' ra ys ∧ EvsAt w' ea es ∧ (ys.length ≤ rc ∧ rc ≤ maxLen) ∧ (es.length ≤ ec ∧ ec ≤ maxLen) ∧
  ∃ S', XL S' W w' n m E s T X B q ∧ Keeps S w w' ∧ (∀ i, S' i → S i ∨ w.heap.size ≤ i) ∧ (∀ a, ra = some a → ¬ S' a.block ∧ w.heap.size ≤ a.block) ∧ ∀ a, ea = some a → ¬ S' a.block ∧ w.heap.size ≤ a.block
structure XApE (S : Nat → Prop) (W w0 w : World) (n m : Nat) (E : Int) (s : LS) (T : Nat → Int) (X B q N Z : Nat) (ra : Option Addr) (rc : Nat) (ys : List (Int × Int)) (ea : Option Addr) (ec : Nat) (es : List EV) (S' : Nat → Prop) : Prop where
 ld : XL S' W w n m E s T X B q
 kp : Keeps S w0 w
 nw : ∀ i, S' i → S i ∨ w0.heap.size ≤ i
 nb : w.heap[N]? = some (.cells #[.int .i64 s.ck, .int .i64 (s.es.length : Int), .slice ra ys.length rc, .slice ea es.length ec] 37 (0, 0))
 zb : ∃ a0 a1 a2 a3, w.heap[Z]? = some (.cells #[a0, a1, a2, a3] 37 (0, 0))
 rp : RepsAt w ra ys
 ev : EvsAt w ea es
 ap : ¬ S' N ∧ ¬ S' Z ∧ N ≠ Z
 oN : W.heap.size ≤ w0.heap.size ∧ w0.heap.size ≤ N ∧ w0.heap.size ≤ Z
 ar : ∀ a, ra = some a → ¬ S' a.block ∧ a.block ≠ N ∧ a.block ≠ Z ∧ w0.heap.size ≤ a.block
 ae : ∀ a, ea = some a → ¬ S' a.block ∧ a.block ≠ N ∧ a.block ≠ Z ∧ w0.heap.size ≤ a.block
 rb : ys.length ≤ rc ∧ rc ≤ maxLen
 eb : es.length ≤ ec ∧ ec ≤ maxLen
section
variable {S S' : Nat → Prop} {W w0 w w' : World} {n m : Nat} {E : Int} {s : LS} {T : Nat → Int} {X B q N Z Q : Nat} {seen : Int} {ro : Option Addr} {rn rc0 : Nat} {ys : List (Int × Int)} {ra ea : Option Addr} {rc ec : Nat} {es : List EV}
theorem XApAt.end_ (h : XApAt S W w0 w n m E s T X B q N Z Q seen ro rn rc0 ys (.slice ra ys.length rc) S') (hW : W.heap.size ≤ w0.heap.size) :
 XApE S W w0 ((w.setCell ⟨N, 0, none⟩ (.int .i64 s.ck)).setCell ⟨N, 1, none⟩ (.int .i64 (s.es.length : Int))) n m E s T X B q N Z ra rc ys none 0 [] S' := by
 obtain ⟨a0, a1, a2, a3, hz⟩ := h.zb
 have hap := h.ap
 have hoN := h.oN
 have hk : Keeps (fun i => i = N) w ((w.setCell ⟨N, 0, none⟩ (.int .i64 s.ck)).setCell ⟨N, 1, none⟩ (.int .i64 (s.es.length : Int))) := ((Keeps.refl (fun i => i = N) w).setCell (p := ⟨N, 0, none⟩) (Or.inl rfl) _).setCell (p := ⟨N, 1, none⟩) (Or.inl rfl) _
 have hrow := reps_of_own rfl h.row
 have hb : ∀ a, ra = some a → (Value.slice ra ys.length rc).ownBlock = some a.block := fun a ha => own_blk h.row a ha
 obtain ⟨_, _, hsh, hsl, hsm⟩ := own_shape h.row
 simp only [Value.slice.injEq] at hsh
 refine ⟨h.ld.keep hk (fun i e => e ▸ hap.1) (fun i e => by omega), h.kp.trans hk (fun i e => Or.inr (by omega)), h.nw, by simpa using blk_set (blk_set h.nb 0 (.int .i64 s.ck)) 1 (.int .i64 (s.es.length : Int)), ⟨a0, a1, a2, a3, (hk.block Z (blk_lt hz) (fun e => hap.2.2.2.1 e.symm)).trans hz⟩, hrow.keep hk (fun a ha e => (h.nY _ (hb a ha)).1 e), Or.inl rfl, ⟨hap.1, hap.2.1, hap.2.2.2.1⟩, ⟨hW, hoN.1, hoN.2.1⟩, fun a ha => ⟨h.ay _ (hb a ha), (h.nY _ (hb a ha)).1, (h.nY _ (hb a ha)).2.1, h.oy _ (hb a ha)⟩, (fun a ha => by cases ha), ⟨by rw [hsh.2.2]; exact hsl, by rw [hsh.2.2]; exact hsm⟩, ⟨Nat.le_refl _, Nat.zero_le _⟩⟩
theorem XApE.below (h : XApE S W w0 w n m E s T X B q N Z ra rc ys ea ec es S') (hb : Below w.heap.size w w') : XApE S W w0 w' n m E s T X B q N Z ra rc ys ea ec es S' := by
 obtain ⟨a0, a1, a2, a3, hz⟩ := h.zb
 have hk : Keeps (fun _ => False) w w' := Keeps.of_below hb
 exact ⟨h.ld.below hb, h.kp.trans hk (fun i f => f.elim), h.nw, (hb.block N (blk_lt h.nb)).trans h.nb, ⟨a0, a1, a2, a3, (hb.block Z (blk_lt hz)).trans hz⟩, h.rp.keep hk (fun _ _ f => f), h.ev.keep hk (fun _ _ f => f), h.ap, h.oN, h.ar, h.ae, h.rb, h.eb⟩
theorem XApE.evs (h : XApE S W w0 w n m E s T X B q N Z ra rc ys none 0 [] S') (he : EvsAt w ea es) (hc : es.length ≤ ec ∧ ec ≤ maxLen) (ha : ∀ a, ea = some a → ¬ S' a.block ∧ a.block ≠ N ∧ a.block ≠ Z ∧ w0.heap.size ≤ a.block) :
 XApE S W w0 (w.setCell ⟨N, 3, none⟩ (.slice ea es.length ec)) n m E s T X B q N Z ra rc ys ea ec es S' := by
 obtain ⟨a0, a1, a2, a3, hz⟩ := h.zb
 have hk : Keeps (fun i => i = N) w (w.setCell ⟨N, 3, none⟩ (.slice ea es.length ec)) := (Keeps.refl (fun i => i = N) w).setCell (p := ⟨N, 3, none⟩) (Or.inl rfl) _
 have hoN := h.oN
 exact ⟨h.ld.keep hk (fun i e => e ▸ h.ap.1) (fun i e => by omega), h.kp.trans hk (fun i e => Or.inr (by omega)), h.nw, by simpa using blk_set h.nb 3 (.slice ea es.length ec), ⟨a0, a1, a2, a3, (hk.block Z (blk_lt hz) (fun e => h.ap.2.2 e.symm)).trans hz⟩, h.rp.keep hk (fun a ha e => (h.ar a ha).2.1 e), he.keep hk (fun a h2 e => (ha a h2).2.1 e), h.ap, h.oN, h.ar, ha, h.rb, hc⟩
theorem XApE.fin (h : XApE S W w0 w n m E s T X B q N Z ra rc ys ea ec es S') (a0 a1 a2 a3 : Value) (hw : Below w.heap.size w w' ∨ w' = w) :
 XAppPost S W w0 n m E s T X B q ys es (.returned (.agg #[.int .i64 s.ck, .int .i64 (s.es.length : Int), .slice ra ys.length rc, .slice ea es.length ec])) (fillA w Z a0 a1 a2 a3) := by
 have hk := fillA_keeps w Z a0 a1 a2 a3
 have hoN := h.oN
 refine ⟨ra, rc, ea, ec, rfl, h.rp.keep hk (fun a ha e => (h.ar a ha).2.2.1 e), h.ev.keep hk (fun a ha e => (h.ae a ha).2.2.1 e), h.rb, h.eb, S', h.ld.keep hk (fun i e => e ▸ h.ap.2.1) (fun i e => by omega), h.kp.trans hk (fun i e => Or.inr (by omega)), h.nw, fun a ha => ⟨(h.ar a ha).1, (h.ar a ha).2.2.2⟩, fun a ha => ⟨(h.ae a ha).1, (h.ae a ha).2.2.2⟩⟩
end
def OneLaw : Prop := ∀ (S : Nat → Prop) (W w : World) (n m : Nat) (E : Int) (s : LS) (T : Nat → Int) (X B q : Nat), XL S W w n m E s T X B q → ∀ (p : Int) (r : RQ),
 Calls Tryz.prog 55 #[.pointer (some ⟨X, 0, none⟩), .int .i64 p, .agg r.cells] w fun e w' => e = .returned (.agg #[.int .i64 (doesF n m E s p r).c, .int .i64 (doesF n m E s p r).i]) ∧ XLPost S W w n m E (stepF n m E p s r) T X B q w'
section
variable {P : Program} {md : Region.Mode} {ops : Array Oper} {Q : Exit → Act → World → Prop} {S1 : World → Prop} {tl : List Nat}
def walkD (P : Program) (md : Region.Mode) (ops : Array Oper) (Q : Exit → Act → World → Prop) (S1 : World → Prop) (tl : List Nat) : Nat → Array Bool → Act → World → Prop
 | 0, listed, a, w => Region.ready md ops listed = [] ∧ Q .normal a w
 | fuel + 1, listed, a, w =>
   (Region.ready md ops listed = [] → Q .normal a w) ∧
   ∀ i ∈ Region.ready md ops listed, wpOp P ops Q i (fun a' w' => (tl.contains i = false → S1 w') ∧ walkD P md ops Q S1 tl fuel (listed.setIfInBounds i true) a' w') a w
theorem walkD_any : ∀ (fuel : Nat) (listed : Array Bool) (a : Act) (w : World), walkD P md ops Q S1 tl fuel listed a w → wpAny P md ops Q fuel listed a w
 | 0, _, _, _, h => h
 | fuel + 1, _, _, _, h => ⟨h.1, fun i hi => wpOp_mono (fun a' w' h' => walkD_any fuel _ a' w' h'.2) (h.2 i hi)⟩
theorem walkD_start {id : Nat} {a : Act} {w : World} (hm : P.follows .mixedOrders = true) (hS : S1 w.drew) (h : S1 w.drew → walkD P .any ops Q S1 tl ops.size (Array.replicate ops.size false) a w.drew) : (Code.region id ops true).wp P Q a w :=
 wp_region_any hm (walkD_any _ _ _ _ (h hS))
def waitsB (md : Region.Mode) (ops : Array Oper) (j i : Nat) : Bool := match ops[j]? with
 | none => false
 | some oj => oj.after.any fun e => Region.binds md e && e.on == i
def chainB (md : Region.Mode) (ops : Array Oper) : List Nat → Bool
 | [] => true
 | [_] => true
 | j :: i :: r => waitsB md ops j i && chainB md ops (i :: r)
def Closed (md : Region.Mode) (ops : Array Oper) (listed : Array Bool) : Prop := ∀ k i, listed.getD k false = true → waitsB md ops k i = true → listed.getD i false = true
def closedB (md : Region.Mode) (ops : Array Oper) (listed : Array Bool) : Bool := (List.range listed.size).all fun k => !listed.getD k false || match ops[k]? with
 | none => true
 | some ok => ok.after.all fun e => !Region.binds md e || listed.getD e.on false
theorem waitsB_spec {j i : Nat} {oj : Oper} (hj : ops[j]? = some oj) (h : waitsB md ops j i = true) : ∃ e ∈ oj.after, Region.binds md e = true ∧ e.on = i := by
 unfold waitsB at h
 rw [hj] at h
 dsimp only at h
 rw [Array.any_eq_true] at h
 obtain ⟨k, hk, h2⟩ := h
 simp only [Bool.and_eq_true, beq_iff_eq] at h2
 exact ⟨_, Array.getElem_mem hk, h2⟩
theorem waitsB_some {j i : Nat} (h : waitsB md ops j i = true) : ∃ oj, ops[j]? = some oj := by
 unfold waitsB at h
 cases hj : ops[j]? with
 | none => rw [hj] at h; cases h
 | some oj => exact ⟨oj, rfl⟩
theorem closedB_spec {listed : Array Bool} (h : closedB md ops listed = true) : Closed md ops listed := by
 intro k i hk hw
 unfold closedB at h
 rw [List.all_eq_true] at h
 have hkl : k < listed.size := by
  rcases Nat.lt_or_ge k listed.size with h' | h'
  · exact h'
  · simp [Array.getElem?_eq_none h'] at hk
 have h1 := h k (List.mem_range.2 hkl)
 obtain ⟨ok, hok⟩ := waitsB_some hw
 obtain ⟨e, he, hb, hei⟩ := waitsB_spec hok hw
 rw [hk, hok] at h1
 simp only [Bool.not_true, Bool.false_or] at h1
 rw [Array.all_eq_true] at h1
 obtain ⟨x, hx, hxe⟩ := Array.mem_iff_getElem.1 he
 have h2 := h1 x hx
 rw [hxe, hb, hei] at h2
 simpa using h2
theorem chain_listed {listed : Array Bool} (hc : Closed md ops listed) : ∀ (l : List Nat) (j i : Nat), chainB md ops (j :: l ++ [i]) = true → listed.getD j false = true → listed.getD i false = true
 | [], j, i, h, hj => by
   simp only [List.cons_append, List.nil_append, chainB, Bool.and_true] at h
   exact hc j i hj h
 | k :: l, j, i, h, hj => by
   simp only [List.cons_append, chainB, Bool.and_eq_true] at h
   exact chain_listed hc l k i (by simpa using h.2) (hc j k hj h.1)
theorem getD_set {listed : Array Bool} {j k : Nat} (h : (listed.setIfInBounds j true).getD k false = true) : k = j ∨ listed.getD k false = true := by
 by_cases e : j = k
 · exact Or.inl e.symm
 · refine Or.inr ?_
   simp only [Array.getD_eq_getD_getElem?] at h ⊢
   rwa [Array.getElem?_setIfInBounds_ne e] at h
theorem getD_mono {listed : Array Bool} {j k : Nat} (h : listed.getD k false = true) : (listed.setIfInBounds j true).getD k false = true := by
 by_cases e : j = k
 · subst e
   have hl : j < listed.size := by
    rcases Nat.lt_or_ge j listed.size with h' | h'
    · exact h'
    · simp [Array.getElem?_eq_none h'] at h
   simp [hl]
 · simp only [Array.getD_eq_getD_getElem?] at h ⊢
   rwa [Array.getElem?_setIfInBounds_ne e]
theorem walkD_first {Si : World → Prop} {i hub : Nat} {pth : List Nat} {oi : Oper} {v : Value} (hi : ops[i]? = some oi) (hsel : ∀ (j : Nat) (o : Oper) cs b, ops[j]? = some o → o.op ≠ .select cs b)
 (hQ : ∀ c a w, Q (.panic c) (a.put oi.dst v) w → Q (.panic c) a w) (hSi : ∀ w, S1 w → Si w)
 (hT : (tl.contains i = false ∧ chainB md ops (hub :: pth ++ [i]) = true) ∨ ((∀ w, Si w) ∧ tl.contains i = true)) :
 ∀ (fuel : Nat) (listed : Array Bool) (a : Act) (w : World), Closed md ops listed → (tl.contains i = false → tl.all (fun j => listed.getD j false || waitsB md ops j hub) = true) →
  (∀ j oj, ops[j]? = some oj → j ≠ i → listed.getD j true = false → (∀ e ∈ oj.after, Region.binds md e = true → e.on ≠ i) → oi.apart ops oj = true) →
  i ∈ Region.ready md ops listed → YieldsIf P ops Si oi v a → Si w → (tl.contains i = false → S1 w) →
  walkD P md ops Q S1 tl fuel (listed.setIfInBounds i true) (a.put oi.dst v) w → walkD P md ops Q S1 tl (fuel + 1) listed a w := by
 intro fuel
 induction fuel with
 | zero =>
   intro listed a w _ _ _ hr hy hS hS1 H
   refine ⟨fun h => (by rw [h] at hr; cases hr), fun j hj => ?_⟩
   by_cases hji : j = i
   · subst hji; exact hy.wpOp hi hS ⟨hS1, H⟩
   · have := ready_mono hj hji
     rw [H.1] at this
     cases this
 | succ fuel ih =>
   intro listed a w hcl htl hfree hr hy hS hS1 H
   refine ⟨fun h => (by rw [h] at hr; cases hr), fun j hj => ?_⟩
   by_cases hji : j = i
   · subst hji; exact hy.wpOp hi hS ⟨hS1, H⟩
   · have h1 := H.2 j (ready_mono hj hji)
     obtain ⟨hjun, oj, hoj, hall⟩ := mem_ready.1 hj
     have hiun := (mem_ready.1 hr).1
     have hil : listed.getD i false = false := by
      rcases Nat.lt_or_ge i listed.size with h' | h'
      · simpa [h'] using hiun
      · simp [Array.getElem?_eq_none h']
     have hnot : ∀ e ∈ oj.after, Region.binds md e = true → e.on ≠ i := fun e he hb heq => by
      have h1 := hall e he hb
      rw [heq, hil] at h1
      cases h1
     have h2 := wpOp_putIf hoj (hfree j oj hoj hji hjun hnot) (fun cs b => hsel i oi cs b hi) (fun cs b => hsel j oj cs b hoj) hQ hy h1
     have hfree' : ∀ k ok, ops[k]? = some ok → k ≠ i → (listed.setIfInBounds j true).getD k true = false →
      (∀ e ∈ ok.after, Region.binds md e = true → e.on ≠ i) → oi.apart ops ok = true := fun k ok hk hki hun hno => by
      refine hfree k ok hk hki ?_ hno
      by_cases hjk : j = k
      · subst hjk; exact hjun
      · rw [getD_set_ne true hjk] at hun; exact hun
     have hcl' : Closed md ops (listed.setIfInBounds j true) := fun k x hk hw => by
      rcases getD_set hk with rfl | hk
      · obtain ⟨e, he, hb, hei⟩ := waitsB_spec hoj hw
        exact getD_mono (hei ▸ hall e he hb)
      · exact getD_mono (hcl k x hk hw)
     have htl' : tl.contains i = false → tl.all (fun k => (listed.setIfInBounds j true).getD k false || waitsB md ops k hub) = true := fun hti => by
      have h0 := htl hti
      rw [List.all_eq_true] at h0 ⊢
      intro k hk
      have h1 := h0 k hk
      rw [Bool.or_eq_true] at h1 ⊢
      exact h1.imp getD_mono id
     have hjl : listed.getD j false = false := by
      rcases Nat.lt_or_ge j listed.size with h' | h'
      · simpa [h'] using hjun
      · simp [Array.getElem?_eq_none h']
     refine wpOp_mono (fun a' w' h3 => ?_) h2
     have hSS : Si w' ∧ (tl.contains i = false → S1 w') := by
      rcases hT with ⟨hti, hch⟩ | ⟨hT, hti⟩
      · have hT2 := htl hti
        have hs : S1 w' := by
         refine h3.2.1 ?_
         cases hc : tl.contains j
         · rfl
         · exfalso
           rw [List.all_eq_true] at hT2
           have hw := hT2 j (by simpa using hc)
           rw [hjl, Bool.false_or] at hw
           obtain ⟨e, he, hb, hei⟩ := waitsB_spec hoj hw
           have hh := hall e he hb
           rw [hei] at hh
           have hx := chain_listed hcl pth hub i hch hh
           rw [hil] at hx
           cases hx
        exact ⟨hSi w' hs, fun _ => hs⟩
      · exact ⟨hT w', fun h => by rw [hti] at h; cases h⟩
     refine ⟨h3.2.1, ih (listed.setIfInBounds j true) a' w' hcl' htl' hfree' (ready_mono hr (Ne.symm hji)) h3.1 hSS.1 hSS.2 ?_⟩
     rw [Array.setIfInBounds_comm _ _ hji]
     exact h3.2.2
theorem take_d {i hub d : Nat} {pth : List Nat} {oi : Oper} {v : Value} {fuel : Nat} {listed : Array Bool} {t : Array Value} {df : _} {w : World} (hi : ops[i]? = some oi) (hd : oi.dst = some d)
 (hs : Region.noSelect ops = true) (hf : Region.free md ops listed i = true) (hr : (Region.ready md ops listed).contains i = true) (hc : closedB md ops listed = true)
 (hQ : ∀ c a w, Q (.panic c) (a.put oi.dst v) w → Q (.panic c) a w) (hti : tl.contains i = false) (hT : tl.all (fun j => listed.getD j false || waitsB md ops j hub) = true) (hch : chainB md ops (hub :: pth ++ [i]) = true) (hy : YieldsIf P ops S1 oi v ⟨t, df⟩) (hS : S1 w)
 (h : walkD P md ops Q S1 tl fuel (listed.setIfInBounds i true) ⟨t.setIfInBounds d v, df⟩ w) : walkD P md ops Q S1 tl (fuel + 1) listed ⟨t, df⟩ w :=
 walkD_first (Si := S1) hi (Region.noSelect_spec hs) hQ (fun _ h => h) (Or.inl ⟨hti, hch⟩) fuel listed _ w (closedB_spec hc) (fun _ => hT) (Region.free_spec hi hf) (by simpa using hr) hy hS (fun _ => hS) (by rw [hd]; exact h)
theorem take_t {i d : Nat} {oi : Oper} {v : Value} {fuel : Nat} {listed : Array Bool} {t : Array Value} {df : _} {w : World} (hi : ops[i]? = some oi) (hd : oi.dst = some d)
 (hs : Region.noSelect ops = true) (hf : Region.free md ops listed i = true) (hr : (Region.ready md ops listed).contains i = true) (hc : closedB md ops listed = true)
 (hQ : ∀ c a w, Q (.panic c) (a.put oi.dst v) w → Q (.panic c) a w) (hti : tl.contains i = true) (hy : YieldsIf P ops (fun _ => True) oi v ⟨t, df⟩)
 (h : walkD P md ops Q S1 tl fuel (listed.setIfInBounds i true) ⟨t.setIfInBounds d v, df⟩ w) : walkD P md ops Q S1 tl (fuel + 1) listed ⟨t, df⟩ w :=
 walkD_first (Si := fun _ => True) (hub := 0) (pth := []) hi (Region.noSelect_spec hs) hQ (fun _ _ => trivial) (Or.inr ⟨fun _ => trivial, hti⟩) fuel listed _ w (closedB_spec hc) (fun h => by rw [hti] at h; cases h) (Region.free_spec hi hf) (by simpa using hr) hy trivial (fun h => by rw [hti] at h; cases h) (by rw [hd]; exact h)
def AllD (P : Program) (md : Region.Mode) (ops : Array Oper) (Q : Exit → Act → World → Prop) (S1 : World → Prop) (tl : List Nat) (fuel : Nat) (listed : Array Bool) (a : Act) (w : World) (rs : List Nat) : Prop :=
 ∀ i ∈ rs, wpOp P ops Q i (fun a' w' => (tl.contains i = false → S1 w') ∧ walkD P md ops Q S1 tl fuel (listed.setIfInBounds i true) a' w') a w
theorem AllD.nil {fuel : Nat} {listed : Array Bool} {a : Act} {w : World} : AllD P md ops Q S1 tl fuel listed a w [] := fun _ h => by cases h
theorem AllD.cons {fuel : Nat} {listed : Array Bool} {a : Act} {w : World} {i : Nat} {o : Oper} {rs : List Nat} (ho : ops[i]? = some o)
 (h : ∀ K' : Act → World → Prop, Shut (∀ a w, S1 w → (S1 w → walkD P md ops Q S1 tl fuel (listed.setIfInBounds i true) a w) → K' a w) → if Region.wanted o (yielded ops a.tmps) = true then Oper.wp P o a w K' Q else K' (a.put o.dst undef) w)
 (hs : AllD P md ops Q S1 tl fuel listed a w rs) : AllD P md ops Q S1 tl fuel listed a w (i :: rs) := fun j hj => by
 rcases List.mem_cons.1 hj with rfl | hj
 · exact wpOp_step ho (fun K' hK => h K' (fun a w hS hW => hK a w ⟨fun _ => hS, hW hS⟩))
 · exact hs j hj
theorem AllD.tail {fuel : Nat} {listed : Array Bool} {a : Act} {w : World} {i : Nat} {o : Oper} {rs : List Nat} (ht : tl.contains i = true) (ho : ops[i]? = some o)
 (h : ∀ K' : Act → World → Prop, Shut (∀ a w, walkD P md ops Q S1 tl fuel (listed.setIfInBounds i true) a w → K' a w) → if Region.wanted o (yielded ops a.tmps) = true then Oper.wp P o a w K' Q else K' (a.put o.dst undef) w)
 (hs : AllD P md ops Q S1 tl fuel listed a w rs) : AllD P md ops Q S1 tl fuel listed a w (i :: rs) := fun j hj => by
 rcases List.mem_cons.1 hj with rfl | hj
 · exact wpOp_step ho (fun K' hK => h K' (fun a w hW => hK a w ⟨fun h0 => (by rw [ht] at h0; cases h0), hW⟩))
 · exact hs j hj
theorem wanted_none {o : Oper} (y : Nat → Option Bool) (hg : o.guard = none) : Region.wanted o y = true := by
 unfold Region.wanted
 rw [hg]
theorem drop_get {i : Nat} {o : Oper} {more : List Oper} (hd : ops.toList.drop i = o :: more) : ops[i]? = some o := by
 have h : (ops.toList.drop i)[0]? = some o := by rw [hd]; rfl
 rw [List.getElem?_drop, Nat.add_zero] at h
 rwa [← Array.getElem?_toList]
theorem AllD.op {fuel : Nat} {listed : Array Bool} {a : Act} {w : World} {i : Nat} {o : Oper} {more : List Oper} {rs : List Nat} (hd : ops.toList.drop i = o :: more) (hg : o.guard = none)
 (h : ∀ K' : Act → World → Prop, Shut (∀ a w, S1 w → (S1 w → walkD P md ops Q S1 tl fuel (listed.setIfInBounds i true) a w) → K' a w) → Oper.wp P o a w K' Q)
 (hs : AllD P md ops Q S1 tl fuel listed a w rs) : AllD P md ops Q S1 tl fuel listed a w (i :: rs) :=
 AllD.cons (drop_get hd) (fun K' hK => by rw [if_pos (wanted_none _ hg)]; exact h K' hK) hs
theorem AllD.opT {fuel : Nat} {listed : Array Bool} {a : Act} {w : World} {i : Nat} {o : Oper} {more : List Oper} {rs : List Nat} (ht : tl.contains i = true) (hd : ops.toList.drop i = o :: more) (hg : o.guard = none)
 (h : ∀ K' : Act → World → Prop, Shut (∀ a w, walkD P md ops Q S1 tl fuel (listed.setIfInBounds i true) a w → K' a w) → Oper.wp P o a w K' Q)
 (hs : AllD P md ops Q S1 tl fuel listed a w rs) : AllD P md ops Q S1 tl fuel listed a w (i :: rs) :=
 AllD.tail ht (drop_get hd) (fun K' hK => by rw [if_pos (wanted_none _ hg)]; exact h K' hK) hs
theorem walkD_ready {rs : List Nat} {fuel : Nat} {listed : Array Bool} {a : Act} {w : World} (hr : Region.ready md ops listed = rs) (hne : rs ≠ [])
 (h : AllD P md ops Q S1 tl fuel listed a w rs) : walkD P md ops Q S1 tl (fuel + 1) listed a w := ⟨fun h0 => absurd (hr ▸ h0) hne, hr ▸ h⟩
theorem walkD_done {listed : Array Bool} {a : Act} {w : World} (hr : Region.ready md ops listed = []) (h : Q .normal a w) : ∀ fuel, walkD P md ops Q S1 tl fuel listed a w
 | 0 => ⟨hr, h⟩
 | _ + 1 => ⟨fun _ => h, by rw [hr]; simp⟩
end
section
variable {P : Program} {md : Region.Mode} {ops : Array Oper} {Q : Exit → Act → World → Prop} {S1 : World → Prop} {tl : List Nat} {oi : Oper} {v : Value} {fuel : Nat} {listed : Array Bool} {t : Array Value} {df : _} {w : World}
theorem tz (i d : Nat) (h : walkD P md ops Q S1 tl fuel (listed.setIfInBounds i true) ⟨t.setIfInBounds d v, df⟩ w) (hi : ops[i]? = some oi := by exact rfl) (hd : oi.dst = some d := by exact rfl)
    (hs : Region.noSelect ops = true := by kernel_rfl) (hf : Region.free md ops listed i = true := by kernel_rfl) (hr : (Region.ready md ops listed).contains i = true := by kernel_rfl) (hc : closedB md ops listed = true := by kernel_rfl)
    (hQ : ∀ c a w, Q (.panic c) (a.put oi.dst v) w → Q (.panic c) a w := by exact fun _ _ _ h => h) (hti : tl.contains i = true := by kernel_rfl)
    (hy : YieldsIf P ops (fun _ => True) oi v ⟨t, df⟩ := by exact Or.inl ⟨by rfl, by intro w' hSw; (try dsimp only at hSw); go_simp; try with_reducible rfl⟩) : walkD P md ops Q S1 tl (fuel + 1) listed ⟨t, df⟩ w :=
  take_t hi hd hs hf hr hc hQ hti hy h
theorem td (i hub : Nat) (pth : List Nat) (d : Nat) (h : walkD P md ops Q S1 tl fuel (listed.setIfInBounds i true) ⟨t.setIfInBounds d v, df⟩ w) (hi : ops[i]? = some oi := by exact rfl) (hd : oi.dst = some d := by exact rfl)
    (hs : Region.noSelect ops = true := by kernel_rfl) (hf : Region.free md ops listed i = true := by kernel_rfl) (hr : (Region.ready md ops listed).contains i = true := by kernel_rfl) (hc : closedB md ops listed = true := by kernel_rfl)
    (hQ : ∀ c a w, Q (.panic c) (a.put oi.dst v) w → Q (.panic c) a w := by exact fun _ _ _ h => h) (hti : tl.contains i = false := by kernel_rfl) (hT : tl.all (fun j => listed.getD j false || waitsB md ops j hub) = true := by kernel_rfl) (hch : chainB md ops (hub :: pth ++ [i]) = true := by kernel_rfl)
    (hy : YieldsIf P ops S1 oi v ⟨t, df⟩ := by exact Or.inl ⟨by rfl, by intro w' hSw; (try dsimp only at hSw); go_simp; try with_reducible rfl⟩) (hS : S1 w := by assumption) : walkD P md ops Q S1 tl (fuel + 1) listed ⟨t, df⟩ w :=
  take_d hi hd hs hf hr hc hQ hti hT hch hy hS h
end
structure P3 (Sb S : Nat → Prop) (W w0 : World) (n m : Nat) (b : Nat → Nat → Int) (l : List XR) (X B q : Nat) (w : World) (bx : List (Nat × Obj)) (cs : Array Value) (ve : Value) (ne : Nat) (xe : List Value) (vw : Value) (nw : Nat) (xw : List Value) (vn : Value) (nn : Nat) (xn : List Value) : Prop where
 xb : XB Sb W w n m b l B q
 box : w.heap[X]? = some (.cells cs 72 (0, 0))
 re : w.ownsRow 0 55 9 ve ne xe
 rw_ : w.ownsRow 0 3 1 vw nw xw
 rn : w.ownsRow 0 3 1 vn nn xn
 nX : ¬ Sb X
 aE : ∀ g, ve.ownBlock = some g → ¬ Sb g ∧ (S g ∨ w0.heap.size ≤ g)
 aW : ∀ g, vw.ownBlock = some g → ¬ Sb g ∧ (S g ∨ w0.heap.size ≤ g)
 aN : ∀ g, vn.ownBlock = some g → ¬ Sb g ∧ (S g ∨ w0.heap.size ≤ g)
 wn : ∀ g, vw.ownBlock = some g → vn.ownBlock ≠ some g
 bxs : ∀ x ∈ bx, w.heap[x.1]? = some x.2 ∧ ¬ Sb x.1 ∧ x.1 ≠ X ∧ ve.ownBlock ≠ some x.1 ∧ vw.ownBlock ≠ some x.1 ∧ vn.ownBlock ≠ some x.1
 kp : Keeps S w0 w
 sX : S X
 sW : ∀ i, S i → W.heap.size ≤ i
 wW : W.heap.size ≤ w0.heap.size
section
variable {Sb S : Nat → Prop} {W w0 w w' : World} {n m : Nat} {b : Nat → Nat → Int} {l : List XR} {X B q : Nat} {bx : List (Nat × Obj)} {cs : Array Value} {ve ve' : Value} {ne ne' : Nat} {xe xe' : List Value} {vw vw' : Value} {nw nw' : Nat} {xw xw' : List Value} {vn vn' : Value} {nn nn' : Nat} {xn xn' : List Value}
theorem heap_lt {w : World} {i : Nat} {o : Obj} (h : w.heap[i]? = some o) : i < w.heap.size := by
 rcases Nat.lt_or_ge i w.heap.size with h' | h'
 · exact h'
 · rw [Array.getElem?_eq_none h'] at h; cases h
theorem P3.new (h : P3 Sb S W w0 n m b l X B q w bx cs ve ne xe vw nw xw vn nn xn) (g : Nat) (hg : S g ∨ w0.heap.size ≤ g) : W.heap.size ≤ g := by
 rcases hg with e | e
 · exact h.sW g e
 · exact Nat.le_trans h.wW e
theorem P3.eX (h : P3 Sb S W w0 n m b l X B q w bx cs ve ne xe vw nw xw vn nn xn) : ve.ownBlock ≠ some X ∧ vw.ownBlock ≠ some X ∧ vn.ownBlock ≠ some X := by
 refine ⟨fun hg => ?_, fun hg => ?_, fun hg => ?_⟩
 · obtain ⟨cur, h1⟩ := row_ty h.re hg
   exact TyAt.ne ⟨_, _, h.box⟩ h1 (by decide) rfl
 · obtain ⟨cur, h1⟩ := row_ty h.rw_ hg
   exact TyAt.ne ⟨_, _, h.box⟩ h1 (by decide) rfl
 · obtain ⟨cur, h1⟩ := row_ty h.rn hg
   exact TyAt.ne ⟨_, _, h.box⟩ h1 (by decide) rfl
theorem P3.ew (h : P3 Sb S W w0 n m b l X B q w bx cs ve ne xe vw nw xw vn nn xn) (g : Nat) (hg : ve.ownBlock = some g) : vw.ownBlock ≠ some g ∧ vn.ownBlock ≠ some g := by
 obtain ⟨cur, h1⟩ := row_ty h.re hg
 refine ⟨fun hw => ?_, fun hw => ?_⟩
 · obtain ⟨cur2, h2⟩ := row_ty h.rw_ hw
   exact TyAt.ne ⟨_, _, h2⟩ h1 (by decide) rfl
 · obtain ⟨cur2, h2⟩ := row_ty h.rn hw
   exact TyAt.ne ⟨_, _, h2⟩ h1 (by decide) rfl
theorem P3.below (h : P3 Sb S W w0 n m b l X B q w bx cs ve ne xe vw nw xw vn nn xn) (hb : Below w.heap.size w w') : P3 Sb S W w0 n m b l X B q w' bx cs ve ne xe vw nw xw vn nn xn :=
 ⟨h.xb.below hb, (hb.block X (blk_lt h.box)).trans h.box, ownsRow_same h.re (fun g hg => hb.block g (h.re.lt g hg).2), ownsRow_same h.rw_ (fun g hg => hb.block g (h.rw_.lt g hg).2), ownsRow_same h.rn (fun g hg => hb.block g (h.rn.lt g hg).2), h.nX, h.aE, h.aW, h.aN, h.wn,
  fun x hx => ⟨(hb.block x.1 (heap_lt (h.bxs x hx).1)).trans (h.bxs x hx).1, (h.bxs x hx).2⟩, h.kp.trans (Keeps.of_below (S := S) hb) (fun i hi => Or.inl hi), h.sX, h.sW, h.wW⟩
theorem P3.alloc (h : P3 Sb S W w0 n m b l X B q w bx cs ve ne xe vw nw xw vn nn xn) (c : Array Value) (T : TypeId) : P3 Sb S W w0 n m b l X B q (w.alloc (.cells c T)) ((w.heap.size, .cells c T) :: bx) cs ve ne xe vw nw xw vn nn xn := by
 have h2 := h.below ((Below.refl w.heap.size w).alloc (Nat.le_refl _) (.cells c T))
 refine ⟨h2.xb, h2.box, h2.re, h2.rw_, h2.rn, h2.nX, h2.aE, h2.aW, h2.aN, h2.wn, fun x hx => ?_, h2.kp, h2.sX, h2.sW, h2.wW⟩
 rcases List.mem_cons.1 hx with rfl | hx
 · refine ⟨heap_alloc_new w _, fun hs => ?_, fun e => ?_, fun e => ?_, fun e => ?_, fun e => ?_⟩
   · exact Nat.lt_irrefl _ (h.xb.lt _ hs)
   · have := blk_lt h.box; dsimp only at e; omega
   · exact Nat.lt_irrefl _ (h.re.lt _ e).2
   · exact Nat.lt_irrefl _ (h.rw_.lt _ e).2
   · exact Nat.lt_irrefl _ (h.rn.lt _ e).2
 · exact h2.bxs x hx
theorem P3.appE (h : P3 Sb S W w0 n m b l X B q w bx cs ve ne xe vw nw xw vn nn xn) (hown : w'.ownsRow 0 55 9 ve' ne' xe') (hg : w.grownBy w' ve.ownBlock) (hat : ∀ g, ve'.ownBlock = some g → ve.ownBlock = some g ∨ g = w.heap.size) : P3 Sb S W w0 n m b l X B q w' bx cs ve' ne' xe' vw nw xw vn nn xn := by
 have hk : Keeps (fun i => ve.ownBlock = some i) w w' := (Keeps.refl (fun i => ve.ownBlock = some i) w).grown hg (fun i hi => Or.inl hi)
 have hsz : ¬ Sb w.heap.size := fun hs => Nat.lt_irrefl _ (h.xb.lt _ hs)
 have hw0 := h.kp.size
 refine ⟨h.xb.keep hk (fun i hi => (h.aE i hi).1) (fun i hi => h.new i (h.aE i hi).2), (hk.block X (blk_lt h.box) h.eX.1).trans h.box, hown, ownsRow_same h.rw_ (fun g hg => hk.block g (h.rw_.lt g hg).2 (fun e => (h.ew g e).1 hg)), ownsRow_same h.rn (fun g hg => hk.block g (h.rn.lt g hg).2 (fun e => (h.ew g e).2 hg)), h.nX, fun g hg => ?_, h.aW, h.aN, h.wn, fun x hx => ?_, h.kp.trans hk (fun i hi => (h.aE i hi).2), h.sX, h.sW, h.wW⟩
 · rcases hat g hg with e | e
   · exact h.aE g e
   · exact ⟨e ▸ hsz, Or.inr (by omega)⟩
 · obtain ⟨a1, a2, a3, a4, a5⟩ := h.bxs x hx
   refine ⟨(hk.block x.1 (heap_lt a1) a4).trans a1, a2, a3, fun e => ?_, a5⟩
   rcases hat _ e with e | e
   · exact a4 e
   · have := heap_lt a1; omega
theorem P3.appW (h : P3 Sb S W w0 n m b l X B q w bx cs ve ne xe vw nw xw vn nn xn) (hown : w'.ownsRow 0 3 1 vw' nw' xw') (hg : w.grownBy w' vw.ownBlock) (hat : ∀ g, vw'.ownBlock = some g → vw.ownBlock = some g ∨ g = w.heap.size) : P3 Sb S W w0 n m b l X B q w' bx cs ve ne xe vw' nw' xw' vn nn xn := by
 have hk : Keeps (fun i => vw.ownBlock = some i) w w' := (Keeps.refl (fun i => vw.ownBlock = some i) w).grown hg (fun i hi => Or.inl hi)
 have hsz : ¬ Sb w.heap.size := fun hs => Nat.lt_irrefl _ (h.xb.lt _ hs)
 have hw0 := h.kp.size
 refine ⟨h.xb.keep hk (fun i hi => (h.aW i hi).1) (fun i hi => h.new i (h.aW i hi).2), (hk.block X (blk_lt h.box) h.eX.2.1).trans h.box, ownsRow_same h.re (fun g hg => hk.block g (h.re.lt g hg).2 (fun e => (h.ew g hg).1 e)), hown, ownsRow_same h.rn (fun g hg => hk.block g (h.rn.lt g hg).2 (fun e => h.wn g e hg)), h.nX, h.aE, fun g hg => ?_, h.aN, fun g hg hn => ?_, fun x hx => ?_, h.kp.trans hk (fun i hi => (h.aW i hi).2), h.sX, h.sW, h.wW⟩
 · rcases hat g hg with e | e
   · exact h.aW g e
   · exact ⟨e ▸ hsz, Or.inr (by omega)⟩
 · rcases hat g hg with e | e
   · exact h.wn g e hn
   · have := (h.rn.lt g hn).2; omega
 · obtain ⟨a1, a2, a3, a4, a5, a6⟩ := h.bxs x hx
   refine ⟨(hk.block x.1 (heap_lt a1) a5).trans a1, a2, a3, a4, fun e => ?_, a6⟩
   rcases hat _ e with e | e
   · exact a5 e
   · have := heap_lt a1; omega
theorem P3.appN (h : P3 Sb S W w0 n m b l X B q w bx cs ve ne xe vw nw xw vn nn xn) (hown : w'.ownsRow 0 3 1 vn' nn' xn') (hg : w.grownBy w' vn.ownBlock) (hat : ∀ g, vn'.ownBlock = some g → vn.ownBlock = some g ∨ g = w.heap.size) : P3 Sb S W w0 n m b l X B q w' bx cs ve ne xe vw nw xw vn' nn' xn' := by
 have hk : Keeps (fun i => vn.ownBlock = some i) w w' := (Keeps.refl (fun i => vn.ownBlock = some i) w).grown hg (fun i hi => Or.inl hi)
 have hsz : ¬ Sb w.heap.size := fun hs => Nat.lt_irrefl _ (h.xb.lt _ hs)
 have hw0 := h.kp.size
 refine ⟨h.xb.keep hk (fun i hi => (h.aN i hi).1) (fun i hi => h.new i (h.aN i hi).2), (hk.block X (blk_lt h.box) h.eX.2.2).trans h.box, ownsRow_same h.re (fun g hg => hk.block g (h.re.lt g hg).2 (fun e => (h.ew g hg).2 e)), ownsRow_same h.rw_ (fun g hg => hk.block g (h.rw_.lt g hg).2 (fun e => h.wn g hg e)), hown, h.nX, h.aE, h.aW, fun g hg => ?_, fun g hg hn => ?_, fun x hx => ?_, h.kp.trans hk (fun i hi => (h.aN i hi).2), h.sX, h.sW, h.wW⟩
 · rcases hat g hg with e | e
   · exact h.aN g e
   · exact ⟨e ▸ hsz, Or.inr (by omega)⟩
 · rcases hat g hn with e | e
   · exact h.wn g hg e
   · have := (h.rw_.lt g hg).2; omega
 · obtain ⟨a1, a2, a3, a4, a5, a6⟩ := h.bxs x hx
   refine ⟨(hk.block x.1 (heap_lt a1) a6).trans a1, a2, a3, a4, a5, fun e => ?_⟩
   rcases hat _ e with e | e
   · exact a6 e
   · have := heap_lt a1; omega
theorem P3.setX (h : P3 Sb S W w0 n m b l X B q w bx cs ve ne xe vw nw xw vn nn xn) (j : Nat) (u : Value) : P3 Sb S W w0 n m b l X B q (w.setCell ⟨X, j, none⟩ u) bx (cs.setIfInBounds j u) ve ne xe vw nw xw vn nn xn := by
 have hk : Keeps (fun i => i = X) w (w.setCell ⟨X, j, none⟩ u) := (Keeps.refl (fun i => i = X) w).setCell (p := ⟨X, j, none⟩) (Or.inl rfl) _
 exact ⟨h.xb.keep hk (fun i hi hs => h.nX (hi ▸ hs)) (fun i hi => by rw [hi]; exact h.sW X h.sX), blk_set h.box j u, ownsRow_same h.re (fun g hg => hk.block g (h.re.lt g hg).2 (fun e => h.eX.1 (e ▸ hg))), ownsRow_same h.rw_ (fun g hg => hk.block g (h.rw_.lt g hg).2 (fun e => h.eX.2.1 (e ▸ hg))), ownsRow_same h.rn (fun g hg => hk.block g (h.rn.lt g hg).2 (fun e => h.eX.2.2 (e ▸ hg))), h.nX, h.aE, h.aW, h.aN, h.wn,
  fun x hx => ⟨(hk.block x.1 (heap_lt (h.bxs x hx).1) (h.bxs x hx).2.2.1).trans (h.bxs x hx).1, (h.bxs x hx).2⟩, h.kp.trans hk (fun i hi => Or.inl (by rw [hi]; exact h.sX)), h.sX, h.sW, h.wW⟩
theorem P3.dat {E ck : Int} {es : List DN} {st : Value} (h : P3 Sb S W w0 n m b l X B q w bx #[st, .int .i64 E, .pointer (some ⟨B, 0, none⟩), .int .i64 ck, ve, vw, vn] ve es.length ((es.map DN.e).flatMap EV.list) vw es.length (es.map (fun d => .int .i64 d.p)) vn es.length (es.map (fun d => .int .i64 d.c))) : XDat Sb W w n m E ⟨b, l, ck, es⟩ X B q st ve vw vn :=
 ⟨h.xb, h.box, h.re, h.rw_, h.rn, h.nX, fun g hg => (h.aE g hg).1, fun g hg => (h.aW g hg).1, fun g hg => (h.aN g hg).1, h.wn, h.sW X h.sX, fun g hg => h.new g (h.aE g hg).2, fun g hg => h.new g (h.aW g hg).2, fun g hg => h.new g (h.aN g hg).2⟩
theorem src_box {w : World} {P : Nat} {c : Array Value} {T : TypeId} (h : w.heap[P]? = some (.cells c T (0, 0))) : ∀ ad, some (⟨P, 0, none⟩ : Addr) = some ad → ∀ (j : Nat) (u : Value), c.toList[j]? = some u → w.cell? (ad.add j) = some u := fun ad had j u hu => by
 cases had
 rw [addr_add, Nat.zero_add, blk_cell h]
 rw [← hu, Array.getElem?_toList]
theorem int_one (z : Int) : ∀ u ∈ [Value.int .i64 z], u.oneCell' = true := fun u hu => by rw [List.mem_singleton] at hu; rw [hu]; rfl
theorem Try_infoInt : (Tryz.prog.info? 3).map (fun i => (i.zero, i.size, i.bytes)) = some (some (.int .i64 0), 1, 8) := by kernel_rfl
end
end Go.Proofs.YtkaciaehlibidaaGreat
