/- Parts of the proof: Lx1 In In2 In3 In4 In5. -/
import Derived.Test.YtkaciaehlibidaaGreatZ11
import Derived.Test.YtkaciaehlibidaaGreatZ12
import Derived.Test.YtkaciaehlibidaaGreatZ15
import Derived.Test.YtkaciaehlibidaaGreatZ16
import Derived.Deep.LoopGhost
namespace Go.Proofs.YtkaciaehlibidaaGreat
open Go.RowKit
set_option linter.unusedVariables false
set_option linter.unusedSimpArgs false
def whoL (s : LS) : List Value := s.es.map (fun d => Value.int .i64 d.p)
def whenL (s : LS) : List Value := s.es.map (fun d => Value.int .i64 d.c)
structure XDat (Sb : Nat → Prop) (W w : World) (n m : Nat) (E : Int) (s : LS) (X B q : Nat) (st ve vw vn : Value) : Prop where
 xb : XB Sb W w n m s.b s.l B q
 box : w.heap[X]? = some (.cells #[st, .int .i64 E, .pointer (some ⟨B, 0, none⟩), .int .i64 s.ck, ve, vw, vn] 72 (0, 0))
 re : w.ownsRow 0 55 9 ve s.es.length (s.evs.flatMap EV.list)
 rw_ : w.ownsRow 0 3 1 vw s.es.length (whoL s)
 rn : w.ownsRow 0 3 1 vn s.es.length (whenL s)
 nX : ¬ Sb X
 ne : ∀ g, ve.ownBlock = some g → ¬ Sb g
 nw : ∀ g, vw.ownBlock = some g → ¬ Sb g
 nn : ∀ g, vn.ownBlock = some g → ¬ Sb g
 wn : ∀ g, vw.ownBlock = some g → vn.ownBlock ≠ some g
 oX : W.heap.size ≤ X
 oe : ∀ g, ve.ownBlock = some g → W.heap.size ≤ g
 ow : ∀ g, vw.ownBlock = some g → W.heap.size ≤ g
 on_ : ∀ g, vn.ownBlock = some g → W.heap.size ≤ g
theorem wrapEq9 (x : Int) : IntKind.i64.wrap x = wrap64 x := by simp only [IntKind.wrap_i64, wrap64]
def xfp (Sb : Nat → Prop) (X : Nat) (ve vw vn : Value) (i : Nat) : Prop := Sb i ∨ i = X ∨ ve.ownBlock = some i ∨ vw.ownBlock = some i ∨ vn.ownBlock = some i
def XL (S : Nat → Prop) (W w : World) (n m : Nat) (E : Int) (s : LS) (T : Nat → Int) (X B q : Nat) : Prop :=
 ∃ Sb st ve vw vn, XDat Sb W w n m E s X B q st ve vw vn ∧ LInv n m E s T ∧ NoSec s.l ∧ ∀ i, S i ↔ xfp Sb X ve vw vn i
theorem XB.from_ {S : Nat → Prop} {W0 W w : World} {n m : Nat} {b : Nat → Nat → Int} {l : List XR} {X p : Nat} (h : XB S W w n m b l X p) (hb : Below W0.heap.size W0 W) : XB S W0 w n m b l X p := by
 obtain ⟨Sp, v, h1, h2, h3, h4⟩ := h
 exact ⟨Sp, v, h1, below_step hb h2, h3, fun i hi => Nat.le_trans hb.size (h4 i hi)⟩
section
variable {S Sb S2 : Nat → Prop} {W w w' : World} {n m : Nat} {E : Int} {s : LS} {T : Nat → Int} {X B q : Nat} {st ve vw vn : Value} {b b' : Nat → Nat → Int} {l l' : List XR}
theorem XDat.eX (h : XDat Sb W w n m E s X B q st ve vw vn) : ∀ g, ve.ownBlock = some g → g ≠ X := fun g hg => by
 obtain ⟨cur, h1⟩ := row_ty h.re hg
 exact TyAt.ne ⟨_, _, h.box⟩ h1 (by decide)
theorem XDat.wX (h : XDat Sb W w n m E s X B q st ve vw vn) : ∀ g, vw.ownBlock = some g → g ≠ X := fun g hg => by
 obtain ⟨cur, h1⟩ := row_ty h.rw_ hg
 exact TyAt.ne ⟨_, _, h.box⟩ h1 (by decide)
theorem XDat.nnX (h : XDat Sb W w n m E s X B q st ve vw vn) : ∀ g, vn.ownBlock = some g → g ≠ X := fun g hg => by
 obtain ⟨cur, h1⟩ := row_ty h.rn hg
 exact TyAt.ne ⟨_, _, h.box⟩ h1 (by decide)
theorem XDat.cells (h : XDat Sb W w n m E s X B q st ve vw vn) : w.cell? ⟨X, 0, none⟩ = some st ∧ w.cell? ⟨X, 1, none⟩ = some (.int .i64 E) ∧ w.cell? ⟨X, 2, none⟩ = some (.pointer (some ⟨B, 0, none⟩)) ∧ w.cell? ⟨X, 3, none⟩ = some (.int .i64 s.ck) ∧ w.cell? ⟨X, 4, none⟩ = some ve ∧ w.cell? ⟨X, 5, none⟩ = some vw ∧ w.cell? ⟨X, 6, none⟩ = some vn :=
 ⟨blk_cell h.box 0, blk_cell h.box 1, blk_cell h.box 2, blk_cell h.box 3, blk_cell h.box 4, blk_cell h.box 5, blk_cell h.box 6⟩
theorem XDat.lt (h : XDat Sb W w n m E s X B q st ve vw vn) : ∀ i, xfp Sb X ve vw vn i → i < w.heap.size := by
 rintro i (hi | rfl | hi | hi | hi)
 · exact h.xb.lt i hi
 · exact blk_lt h.box
 · exact (h.re.lt i hi).2
 · exact (h.rw_.lt i hi).2
 · exact (h.rn.lt i hi).2
theorem XDat.new (h : XDat Sb W w n m E s X B q st ve vw vn) : ∀ i, xfp Sb X ve vw vn i → W.heap.size ≤ i := by
 rintro i (hi | rfl | hi | hi | hi)
 · exact h.xb.new i hi
 · exact h.oX
 · exact h.oe i hi
 · exact h.ow i hi
 · exact h.on_ i hi
theorem XDat.keep (h : XDat Sb W w n m E s X B q st ve vw vn) (hk : Keeps S2 w w') (hs : ∀ i, S2 i → ¬ xfp Sb X ve vw vn i) (hn : ∀ i, S2 i → W.heap.size ≤ i) : XDat Sb W w' n m E s X B q st ve vw vn :=
 ⟨h.xb.keep hk (fun i hi h2 => hs i hi (Or.inl h2)) hn, (hk.block X (blk_lt h.box) (fun h2 => hs X h2 (Or.inr (Or.inl rfl)))).trans h.box,
  ownsRow_same h.re (fun g hg => hk.block g (h.re.lt g hg).2 (fun h2 => hs g h2 (Or.inr (Or.inr (Or.inl hg))))),
  ownsRow_same h.rw_ (fun g hg => hk.block g (h.rw_.lt g hg).2 (fun h2 => hs g h2 (Or.inr (Or.inr (Or.inr (Or.inl hg)))))),
  ownsRow_same h.rn (fun g hg => hk.block g (h.rn.lt g hg).2 (fun h2 => hs g h2 (Or.inr (Or.inr (Or.inr (Or.inr hg)))))), h.nX, h.ne, h.nw, h.nn, h.wn, h.oX, h.oe, h.ow, h.on_⟩
theorem XDat.below (h : XDat Sb W w n m E s X B q st ve vw vn) (hb : Below w.heap.size w w') : XDat Sb W w' n m E s X B q st ve vw vn := h.keep (Keeps.of_below (S := fun _ => False) hb) (fun _ h => h.elim) (fun _ h => h.elim)
theorem XDat.bel (h : XDat Sb W w n m E s X B q st ve vw vn) : Below W.heap.size W w := by obtain ⟨_, _, _, h, _⟩ := h.xb; exact h
theorem XDat.book (h : XDat Sb W w n m E s X B q st ve vw vn) {Sb' : Nat → Prop} (h1 : XB Sb' W w' n m b' l' B q) (h2 : Keeps Sb w w') (h3 : ∀ i, Sb' i → Sb i ∨ w.heap.size ≤ i) : XDat Sb' W w' n m E ⟨b', l', s.ck, s.es⟩ X B q st ve vw vn := by
 have hx : ∀ g, ¬ Sb g → g < w.heap.size → ¬ Sb' g := fun g a b c => by
  rcases h3 g c with e | e
  · exact a e
  · omega
 exact ⟨h1, (h2.block X (blk_lt h.box) h.nX).trans h.box, ownsRow_same h.re (fun g hg => h2.block g (h.re.lt g hg).2 (h.ne g hg)), ownsRow_same h.rw_ (fun g hg => h2.block g (h.rw_.lt g hg).2 (h.nw g hg)), ownsRow_same h.rn (fun g hg => h2.block g (h.rn.lt g hg).2 (h.nn g hg)), hx X h.nX (blk_lt h.box), fun g hg => hx g (h.ne g hg) (h.re.lt g hg).2, fun g hg => hx g (h.nw g hg) (h.rw_.lt g hg).2, fun g hg => hx g (h.nn g hg) (h.rn.lt g hg).2, h.wn, h.oX, h.oe, h.ow, h.on_⟩
theorem XDat.tick (h : XDat Sb W w n m E s X B q st ve vw vn) (ck : Int) : XDat Sb W (w.setCell ⟨X, 3, none⟩ (.int .i64 ck)) n m E ⟨s.b, s.l, ck, s.es⟩ X B q st ve vw vn := by
 have hk : Keeps (fun i => i = X) w (w.setCell ⟨X, 3, none⟩ (.int .i64 ck)) := (Keeps.refl (fun i => i = X) w).setCell (p := ⟨X, 3, none⟩) (Or.inl rfl) _
 exact ⟨h.xb.keep hk (fun i hi h2 => h.nX (hi ▸ h2)) (fun i hi => by rw [hi]; exact h.oX), by have := blk_set h.box 3 (.int .i64 ck); simpa using this,
  ownsRow_same h.re (fun g hg => hk.block g (h.re.lt g hg).2 (h.eX g hg)), ownsRow_same h.rw_ (fun g hg => hk.block g (h.rw_.lt g hg).2 (h.wX g hg)), ownsRow_same h.rn (fun g hg => hk.block g (h.rn.lt g hg).2 (h.nnX g hg)), h.nX, h.ne, h.nw, h.nn, h.wn, h.oX, h.oe, h.ow, h.on_⟩
theorem XL.bel (h : XL S W w n m E s T X B q) : Below W.heap.size W w := by obtain ⟨_, _, _, _, _, h, _⟩ := h; exact h.bel
theorem XL.inv (h : XL S W w n m E s T X B q) : LInv n m E s T := by obtain ⟨_, _, _, _, _, _, h, _⟩ := h; exact h
theorem XL.new (h : XL S W w n m E s T X B q) : ∀ i, S i → W.heap.size ≤ i := by
 obtain ⟨_, _, _, _, _, h1, _, _, h3⟩ := h
 exact fun i hi => h1.new i ((h3 i).1 hi)
theorem XL.lt (h : XL S W w n m E s T X B q) : ∀ i, S i → i < w.heap.size := by
 obtain ⟨_, _, _, _, _, h1, _, _, h3⟩ := h
 exact fun i hi => h1.lt i ((h3 i).1 hi)
theorem XL.keep (h : XL S W w n m E s T X B q) (hk : Keeps S2 w w') (hs : ∀ i, S2 i → ¬ S i) (hn : ∀ i, S2 i → W.heap.size ≤ i) : XL S W w' n m E s T X B q := by
 obtain ⟨Sb, st, ve, vw, vn, h1, h2, h3, h4⟩ := h
 exact ⟨Sb, st, ve, vw, vn, h1.keep hk (fun i hi h => hs i hi ((h4 i).2 h)) hn, h2, h3, h4⟩
theorem XL.below (h : XL S W w n m E s T X B q) (hb : Below w.heap.size w w') : XL S W w' n m E s T X B q := h.keep (Keeps.of_below (S := fun _ => False) hb) (fun _ h => h.elim) (fun _ h => h.elim)
set_option maxRecDepth 100000 in
set_option maxHeartbeats 2000000 in
theorem xled_full (h : XDat Sb W w n m E s X B q st ve vw vn) (hI : LInv n m E s T) (k : Int) (k0 : 0 ≤ k) (k1 : k ≤ 2) :
 Calls Tryz.prog 86 #[.pointer (some ⟨X, 0, none⟩), .int .i64 k] w fun e w' => e = .returned (.bool (!room E s k)) ∧ Below w.heap.size w w' := by
 obtain ⟨ao, c, rfl, _, _⟩ := own_shape h.re
 obtain ⟨_, c1, c2, _, c4, _, _⟩ := h.cells
 obtain ⟨Sp, v, hx, _⟩ := h.xb
 have HO := Lib.hid (fun w' (hb : Below w.heap.size w w') => xbook_open (hx.below hb) (by have := hI.len; omega))
 have HR : Hid ((!room E s k) = decide (E < (s.es.length : Int) + (openX s.l : Int) + k)) := Lib.hid (by
  unfold room
  rw [Bool.eq_iff_iff]
  simp only [Bool.not_eq_true', decide_eq_false_iff_not, decide_eq_true_eq]
  omega)
 obtain ⟨ln, hln⟩ : ∃ ln, ln = s.es.length := ⟨_, rfl⟩
 obtain ⟨ox, hox⟩ : ∃ ox, ox = openX s.l := ⟨_, rfl⟩
 have h1 : (ln : Int) ≤ 400 := by have := hI.len; omega
 have h2 : (ox : Int) ≤ 400 := by have := hI.len; omega
 have h3 : (0 : Int) ≤ (ln : Int) := by omega
 have h4 : (0 : Int) ≤ (ox : Int) := by omega
 rw [← hln, ← hox] at HR
 rw [← hox] at HO
 rw [← hln] at c4
 rw [HR.out]
 have hw1 : IntKind.i64.wrap ((ln : Int) + (ox : Int)) = (ln : Int) + (ox : Int) := (wrapEq9 _).trans (by unfold wrap64; omega)
 have hw2 : IntKind.i64.wrap ((ln : Int) + (ox : Int) + k) = (ln : Int) + (ox : Int) + k := (wrapEq9 _).trans (by unfold wrap64; omega)
 clear h hI hx hln hox HR
 go_enter Tryz.func86, Tryz.ntmps86
 go_upto_region 1 with fail
 refine wp_region_held_drew (S := fun w' => w'.cell? ⟨X, 1, none⟩ = some (.int .i64 E) ∧ w'.cell? ⟨X, 2, none⟩ = some (.pointer (some ⟨B, 0, none⟩)) ∧ w'.cell? ⟨X, 4, none⟩ = some (.slice ao ln c)) (by kernel_rfl) ?_ (fun hHeld => ?_)
 · exact ⟨c1, c2, c4⟩
 refine tk 0 5 ?_
 simp only [lz]
 refine tk 1 6 ?_
 simp only [lz]
 refine tk 2 7 ?_
 simp only [lz]
 refine tk 3 8 ?_
 simp only [lz]
 refine tk 4 9 ?_
 simp only [lz]
 refine tk 5 10 ?_
 simp only [lz]
 refine tk 6 11 ?_
 simp only [lz]
 refine tk 7 12 ?_
 simp only [lz]
 refine tk 8 13 ?_
 simp only [lz]
 refine tk 11 16 ?_
 simp only [lz]
 refine tk 13 18 ?_
 simp only [lz]
 refine tk 14 19 ?_
 simp only [lz]
 refine tk 15 20 ?_
 simp only [lz]
 refine tk 16 21 ?_
 simp only [lz]
 refine tk 17 22 ?_
 simp only [lz]
 refine wpAnyH_ready (rs := [9]) (by kernel_rfl) (by simp) ?_
 refine AllReadyH.cons rfl (fun K hK => ?_) AllReadyH.nil
 go_simp
 refine (HO.out w.drew (below_drew w)).mono ?_
 rintro e wx ⟨rfl, rfl⟩
 dsimp only
 go_wp2_with fail
 refine hK.out _ _ ?_ (fun hHeld => ?_)
 · exact ⟨c1, c2, c4⟩
 clear hK K
 try simp only [Act.put, lg]
 try simp only [lz]
 refine tk 10 15 ?_
 simp only [lz]
 refine tk 12 17 ?_
 simp only [lz]
 refine tk 18 23 ?_
 simp only [lz]
 refine tk 19 4 ?_
 simp only [lz]
 refine wpAnyH_done (by kernel_rfl) ?_ _
 go_wp2
 go_ret
 exact ⟨by first | rfl | (congr 2), below_drew w⟩
end
theorem LInv.start {n m : Nat} {E : Int} {b0 : Nat → Nat → Int} (hg : Good n m b0) (hE : 1 ≤ E ∧ E ≤ 400) : LInv n m E ⟨b0, [], 0, []⟩ (fun j => tot b0 j n) :=
 ⟨⟨hg, fun x hx => by simp at hx, fun j hj => by show tot b0 j n + 0 = _; omega, fun j hj => hg.sum j hj, by simp⟩, by show (0 : Int) + 0 ≤ E; omega, hE, ⟨Int.le_refl _, by show (0 : Int) ≤ MT; unfold MT; omega⟩, Nat.le_refl _⟩
def confE (bs : List ISl) (E : Int) : Int := if confOK bs E = true then 0 else 1
theorem confE_yes {bs : List ISl} {E : Int} (h : confOK bs E = true) : confE bs E = 0 := by unfold confE; rw [if_pos h]
theorem confE_no {bs : List ISl} {E : Int} (h : confOK bs E = false) : confE bs E = 1 := by unfold confE; rw [if_neg (by rw [h]; simp)]
set_option maxRecDepth 100000 in
set_option maxHeartbeats 2000000 in
theorem xcheck_any (ao : Option Addr) (bs : List ISl) (n cap : Nat) (E : Int) (w : World) (hn : bs.length = n) (h : IntsList w ao bs) :
 Calls Tryz.prog 50 #[.agg #[.slice ao n cap, .int .i64 E]] w fun e w' => e = .returned (.int .i64 (confE bs E)) ∧ Below w.heap.size w w' := by
 obtain ⟨w1, hw1⟩ : ∃ w1, w1 = w.alloc (.cells #[.slice ao n cap, .int .i64 E] 24) := ⟨_, rfl⟩
 have hb1 : Below w.heap.size w w1 := by rw [hw1]; exact (Below.refl _ _).alloc (Nat.le_refl _) _
 have HX1 : Hid (w1.heap[w.heap.size]? = some (.cells #[.slice ao n cap, .int .i64 E] 24 (0, 0))) := Lib.hid (by rw [hw1]; exact heap_alloc_new _ _)
 have HB1 := Lib.hid hb1
 have HNW := Lib.hid (xnew_any ao bs n cap _ w1 hn (h.below hb1) rfl)
 have HW1 := Lib.hid hw1
 clear hw1 hb1 h hn
 have q0 := blk_cell HX1.out 0
 simp only [lq] at q0
 go_enter Tryz.func50, Tryz.ntmps50
 go_upto_region 1 with fail
 rw [← HW1.out]
 go_wp2_with fail
 refine HNW.out.mono ?_
 rintro e w2 hp
 rcases hp with ⟨hm, p, rfl, hq⟩ | ⟨hm, rfl, hb2⟩
 · have HB2 := Lib.hid (below_step HB1.out hq.2)
   have HX2 : Hid (w2.heap[w.heap.size]? = some (.cells #[.slice ao n cap, .int .i64 E] 24 (0, 0))) := Lib.hid ((hq.2.block _ (blk_lt HX1.out)).trans HX1.out)
   have HC : Hid (confOK bs E = decide (1 ≤ E ∧ E ≤ 400)) := Lib.hid (by unfold confOK; rw [hm]; rfl)
   clear hq hm q0
   have q1 := blk_cell HX2.out 1
   simp only [lq] at q1
   by_cases h1 : E < 1
   · have HQ : Hid (confE bs E = 1) := Lib.hid (confE_no (by rw [HC.out, decide_eq_false_iff_not]; omega))
     go_wp2
     go_ret
     rw [HQ.out]
     exact ⟨rfl, HB2.out⟩
   by_cases h2 : 400 < E
   · have HQ : Hid (confE bs E = 1) := Lib.hid (confE_no (by rw [HC.out, decide_eq_false_iff_not]; omega))
     go_wp2
     go_ret
     rw [HQ.out]
     exact ⟨rfl, HB2.out⟩
   have HQ : Hid (confE bs E = 0) := Lib.hid (confE_yes (by rw [HC.out, decide_eq_true_eq]; omega))
   go_wp2
   go_ret
   rw [HQ.out]
   exact ⟨rfl, HB2.out⟩
 · have HB2 := Lib.hid (below_step HB1.out hb2)
   have HQ : Hid (confE bs E = 1) := Lib.hid (confE_no (by unfold confOK; rw [hm]; rfl))
   clear hb2 hm q0
   go_wp2
   go_ret
   rw [HQ.out]
   exact ⟨rfl, HB2.out⟩
set_option maxRecDepth 100000 in
set_option maxHeartbeats 2000000 in
theorem xledger_no (ao : Option Addr) (bs : List ISl) (n cap : Nat) (E : Int) (w : World) (hn : bs.length = n) (h : IntsList w ao bs) (hc : confOK bs E = false) :
 Calls Tryz.prog 23 #[.agg #[.slice ao n cap, .int .i64 E]] w fun e w' => e = .returned (.tuple #[.pointer none, .int .i64 1]) ∧ Below w.heap.size w w' := by
 obtain ⟨w1, hw1⟩ : ∃ w1, w1 = w.alloc (.cells #[.slice ao n cap, .int .i64 E] 24) := ⟨_, rfl⟩
 have hb1 : Below w.heap.size w w1 := by rw [hw1]; exact (Below.refl _ _).alloc (Nat.le_refl _) _
 have HX1 : Hid (w1.heap[w.heap.size]? = some (.cells #[.slice ao n cap, .int .i64 E] 24 (0, 0))) := Lib.hid (by rw [hw1]; exact heap_alloc_new _ _)
 have HB1 := Lib.hid hb1
 have HCK := Lib.hid (xcheck_any ao bs n cap E w1 hn (h.below hb1))
 rw [confE_no hc] at HCK
 have HW1 := Lib.hid hw1
 clear hw1 hb1 h hn hc
 have q0 := blk_cell HX1.out 0
 have q1 := blk_cell HX1.out 1
 simp only [lq] at q0 q1
 go_enter Tryz.func23, Tryz.ntmps23
 go_upto_region 1 with fail
 rw [← HW1.out]
 go_wp2_with fail
 refine HCK.out.mono ?_
 rintro e w2 ⟨rfl, hb2⟩
 have HB2 := Lib.hid (below_step HB1.out hb2)
 clear hb2
 go_wp2
 go_ret2
 exact ⟨rfl, HB2.out⟩
set_option maxRecDepth 100000 in
set_option maxHeartbeats 2000000 in
theorem xledger_yes (W : World) (ao : Option Addr) (bs : List ISl) (n cap m : Nat) (E : Int) (w : World) (hW : Below W.heap.size W w) (hn : bs.length = n) (h : IntsList w ao bs) (hc : confOK bs E = true) (hm2 : (bs.getD 0 default).zs.length = m) :
 Calls Tryz.prog 23 #[.agg #[.slice ao n cap, .int .i64 E]] w fun e w' => ∃ S X B q, e = .returned (.tuple #[.pointer (some ⟨X, 0, none⟩), .int .i64 0]) ∧
  XL S W w' n m E ⟨balOf bs, [], 0, []⟩ (fun j => tot (balOf bs) j n) X B q ∧ Below w.heap.size w w' ∧ ∀ i, S i → w.heap.size ≤ i := by
 obtain ⟨w1, hw1⟩ : ∃ w1, w1 = w.alloc (.cells #[.slice ao n cap, .int .i64 E] 24) := ⟨_, rfl⟩
 have hb1 : Below w.heap.size w w1 := by rw [hw1]; exact (Below.refl _ _).alloc (Nat.le_refl _) _
 obtain ⟨C, hC⟩ : ∃ C, C = w.heap.size := ⟨_, rfl⟩
 have HX1 : Hid (w1.heap[C]? = some (.cells #[.slice ao n cap, .int .i64 E] 24 (0, 0))) := Lib.hid (by rw [hw1, hC]; exact heap_alloc_new _ _)
 have HB1 := Lib.hid hb1
 have HCK := Lib.hid (xcheck_any ao bs n cap E w1 hn (h.below hb1))
 rw [confE_yes hc] at HCK
 have hcc := hc
 unfold confOK at hcc
 rw [Bool.and_eq_true, decide_eq_true_eq] at hcc
 obtain ⟨hm, e1, e4⟩ := hcc
 have HM := Lib.hid hm
 have HN := Lib.hid (fun w' (hb : Below w.heap.size w w') => xnew_any ao bs n cap m w' hn (h.below hb) hm2)
 have HG : Hid (Good n m (balOf bs)) := Lib.hid (by have := (mayF_good hm).1; rw [hm2, hn] at this; exact this)
 have HE := Lib.hid (And.intro e1 e4)
 have HWW := Lib.hid hW
 have HW1 := Lib.hid hw1
 have HCC := Lib.hid hC
 clear hw1 hb1 h hn hc hm hm2 e1 e4 hW hC
 obtain ⟨b0, hb0⟩ : ∃ b0, b0 = balOf bs := ⟨_, rfl⟩
 rw [← hb0] at HG ⊢
 have HB0 := Lib.hid hb0
 clear hb0
 have q0 := blk_cell HX1.out 0
 have q1 := blk_cell HX1.out 1
 simp only [lq] at q0 q1
 go_enter Tryz.func23, Tryz.ntmps23
 go_upto_region 1 with fail
 rw [← HW1.out, ← HCC.out]
 go_wp2_with fail
 refine HCK.out.mono ?_
 rintro e w2 ⟨rfl, hb2⟩
 have HB2 := Lib.hid (below_step HB1.out hb2)
 have HX2 : Hid (w2.heap[C]? = some (.cells #[.slice ao n cap, .int .i64 E] 24 (0, 0))) := Lib.hid ((hb2.block C (blk_lt HX1.out)).trans HX1.out)
 clear hb2 q0 q1
 have q0 := blk_cell HX2.out 0
 simp only [lq] at q0
 go_wp2_with fail
 refine (HN.out w2 HB2.out).mono ?_
 rintro e w3 hp
 have hp2 : ∃ q, e = .returned (.tuple #[.pointer (some ⟨q, 0, none⟩), .int .i64 0]) ∧ PNew 159 w2 n m b0 q w3 := by
  rcases hp with ⟨_, h⟩ | ⟨h, _⟩
  · rw [HB0.out]; exact h
  · rw [HM.out] at h; cases h
 clear hp
 obtain ⟨q, rfl, hq⟩ := hp2
 have HQ := Lib.hid hq
 have HB3 := Lib.hid (below_step HB2.out hq.2)
 have HX3 : Hid (w3.heap[C]? = some (.cells #[.slice ao n cap, .int .i64 E] 24 (0, 0))) := Lib.hid ((hq.2.block C (blk_lt HX2.out)).trans HX2.out)
 clear hq q0
 have q0 := blk_cell HX3.out 0
 have q1 := blk_cell HX3.out 1
 simp only [lq] at q0 q1
 go_wp2_with fail
 obtain ⟨w4, hw4⟩ : ∃ w4, w4 = w3.alloc (.cells #[.pointer (some ⟨q, 0, none⟩), .slice none 0 0] 127) := ⟨_, rfl⟩
 obtain ⟨w5, hw5⟩ : ∃ w5, w5 = w4.alloc (.cells #[.slice ao n cap, .int .i64 E, .pointer (some ⟨w3.heap.size, 0, none⟩), .int .i64 0, .slice none 0 0, .slice none 0 0, .slice none 0 0] 72) := ⟨_, rfl⟩
 rw [← hw4, ← hw5]
 have hs4 : w4.heap.size = w3.heap.size + 1 := by rw [hw4]; simp
 rw [← hs4]
 have hb4 : Below w3.heap.size w3 w4 := by rw [hw4]; exact (Below.refl _ _).alloc (Nat.le_refl _) _
 have hb5 : Below w4.heap.size w4 w5 := by rw [hw5]; exact (Below.refl _ _).alloc (Nat.le_refl _) _
 obtain ⟨Sb, hxb⟩ := XB.make HB2.out HQ.out hw4
 have hxl := hxb.lt
 have hxn := hxb.new
 have hx5 := (hxb.from_ HWW.out).below hb5
 have HB5 := Lib.hid (below_step (below_step HB3.out hb4) hb5)
 have HXL : Hid (XL (fun i => xfp Sb w4.heap.size (.slice none 0 0) (.slice none 0 0) (.slice none 0 0) i) W w5 n m E ⟨b0, [], 0, []⟩ (fun j => tot b0 j n) w4.heap.size w3.heap.size q) := Lib.hid ⟨Sb, .slice ao n cap, .slice none 0 0, .slice none 0 0, .slice none 0 0,
  ⟨hx5, by rw [hw5]; exact heap_alloc_new _ _, World.ownsRow_nil _ _ _ _, World.ownsRow_nil _ _ _ _, World.ownsRow_nil _ _ _ _, (fun h => by have := hxl _ h; omega), (fun g hg => by cases hg), (fun g hg => by cases hg), (fun g hg => by cases hg), (fun g hg => by cases hg), (by have := HWW.out.size; have := HB3.out.size; omega), (fun g hg => by cases hg), (fun g hg => by cases hg), (fun g hg => by cases hg)⟩,
  LInv.start HG.out HE.out, NoSec.nil, fun i => Iff.rfl⟩
 have HNW : Hid (∀ i, xfp Sb w4.heap.size (.slice none 0 0) (.slice none 0 0) (.slice none 0 0) i → w.heap.size ≤ i) := Lib.hid (fun i hi => by
  rcases hi with e | e | e | e | e
  · exact hxn i e
  · have := HB3.out.size; omega
  · cases e
  · cases e
  · cases e)
 clear hw4 hw5 hs4 hb4 hb5 hxb hxl hxn hx5 q0 q1
 go_ret2
 exact ⟨_, _, _, _, rfl, HXL.out, HB5.out, HNW.out⟩
def InAt (T : TypeId) (w : World) (p g : Nat) (st : InS) : Prop :=
 ∃ ao cap, w.heap[p]? = some (.cells #[.slice ao st.1.length cap, .bool st.2] T (0, 0)) ∧ IntsAt .u8 w ao st.1 ∧ st.1.length ≤ cap ∧ cap ≤ maxLen ∧ InB st.1 ∧ st.1.length ≤ 140737488355328 ∧ (st.1 = [] ∨ ∀ a, ao = some a → a.block = g) ∧ g ≠ p ∧ g < w.heap.size
theorem InAt.keep {T : TypeId} {w w' : World} {p g : Nat} {st : InS} {S : Nat → Prop} (h : InAt T w p g st) (hk : Keeps S w w') (hp : ¬ S p) (hg : ¬ S g) : InAt T w' p g st := by
 obtain ⟨ao, cap, h1, h2, h3, h4, h5, h6, h7, h8, h9⟩ := h
 refine ⟨ao, cap, (hk.block p (blk_lt h1) hp).trans h1, ?_, h3, h4, h5, h6, h7, h8, Nat.lt_of_lt_of_le h9 hk.size⟩
 rcases h7 with h7 | h7
 · exact Or.inl h7
 · exact h2.same (fun a ha hl => hk.block _ hl (by rw [h7 a ha]; exact hg))
theorem InAt.lt {T : TypeId} {w : World} {p g : Nat} {st : InS} (h : InAt T w p g st) : p < w.heap.size := by
 obtain ⟨ao, cap, h1, _⟩ := h; exact blk_lt h1
theorem InAt.glt {T : TypeId} {w : World} {p g : Nat} {st : InS} (h : InAt T w p g st) : g < w.heap.size ∧ g ≠ p := by
 obtain ⟨ao, cap, h1, h2, h3, h4, h5, h6, h7, h8, h9⟩ := h; exact ⟨h9, h8⟩
theorem InAt.below {T : TypeId} {w w' : World} {p g : Nat} {st : InS} (h : InAt T w p g st) (hk : Below w.heap.size w w') : InAt T w' p g st := h.keep (S := fun _ => False) (Keeps.of_below hk) (fun f => f) (fun f => f)
theorem InAt.flag {T : TypeId} {w : World} {p g : Nat} {st : InS} (h : InAt T w p g st) (x : Bool) : InAt T (w.setCell ⟨p, 1, none⟩ (.bool x)) p g (st.1, x) := by
 obtain ⟨ao, cap, h1, h2, h3, h4, h5, h6, h7, h8, h9⟩ := h
 refine ⟨ao, cap, by simpa using blk_set h1 1 (.bool x), ?_, h3, h4, h5, h6, h7, h8, by simpa using h9⟩
 rcases h7 with h7 | h7
 · exact Or.inl h7
 · exact h2.same (fun a ha hl => Below.heap_setCell _ _ _ _ (by rw [h7 a ha]; exact h8))
theorem InAt.none_ {T : TypeId} {w : World} {p g : Nat} {st : InS} (h : InAt T w p g st) : InAt T ((w.setCell ⟨p, 0, none⟩ (.slice none 0 0)).setCell ⟨p, 1, none⟩ (.bool true)) p g ([], true) := by
 obtain ⟨ao, cap, h1, h2, h3, h4, h5, h6, h7, h8, h9⟩ := h
 have a1 := blk_set h1 0 (.slice none 0 0)
 have a2 := blk_set a1 1 (.bool true)
 exact ⟨none, 0, by simpa using a2, Or.inl rfl, Nat.le_refl _, Nat.zero_le _, (fun z hz => nomatch hz), Nat.zero_le _, Or.inl rfl, h8, by simpa using h9⟩
theorem InAt.cells {T : TypeId} {w : World} {p g : Nat} {st : InS} (h : InAt T w p g st) : ∃ ao cap, w.cell? ⟨p, 0, none⟩ = some (.slice ao st.1.length cap) ∧ w.cell? ⟨p, 1, none⟩ = some (.bool st.2) ∧ w.frozen? ⟨p, 0, none⟩ = false ∧ w.frozen? ⟨p, 1, none⟩ = false ∧ IntsAt .u8 w ao st.1 ∧ st.1.length ≤ cap ∧ cap ≤ maxLen := by
 obtain ⟨ao, cap, h1, h2, h3, h4, h5, h6, h7, h8, h9⟩ := h
 have c0 := blk_cell h1 0
 have c1 := blk_cell h1 1
 simp only [lq] at c0 c1
 exact ⟨ao, cap, c0, c1, blk_frozen h1 0, blk_frozen h1 1, h2, h3, h4⟩
theorem InAt.cut {T : TypeId} {w : World} {p g : Nat} {st : InS} (h : InAt T w p g st) (k : Nat) (hk : k ≤ st.1.length) (ao' : Option Addr) (n' cap' : Nat)
 (hv : ∀ ao cap, w.cell? ⟨p, 0, none⟩ = some (.slice ao st.1.length cap) → (k = cap ∧ ao' = ao ∧ cap' = 0) ∨ (ao' = ao.map (·.add k) ∧ cap' = cap - k)) (hn' : n' = st.1.length - k) :
 InAt T (w.setCell ⟨p, 0, none⟩ (.slice ao' n' cap')) p g (st.1.drop k, st.2) := by
 obtain ⟨ao, cap, h1, h2, h3, h4, h5, h6, h7, h8, h9⟩ := h
 have c0 := blk_cell h1 0
 simp only [List.getElem?_toArray, List.getElem?_cons_zero] at c0
 have hl : (st.1.drop k).length = n' := by simp [hn']
 have h5' : InB (st.1.drop k) := fun z hz => h5 z (List.mem_of_mem_drop hz)
 have h7' : st.1.drop k = [] ∨ ∀ a, ao' = some a → a.block = g := by
  rcases h7 with h7 | h7
  · exact Or.inl (by simp [h7])
  · refine Or.inr ?_
    rcases hv ao cap c0 with ⟨_, rfl, _⟩ | ⟨rfl, _⟩
    · exact h7
    · intro a ha
      cases hao : ao with
      | none => rw [hao] at ha; cases ha
      | some b =>
        rw [hao] at ha; simp at ha; subst ha
        have := h7 b hao
        unfold Addr.add; split <;> simp_all
 refine ⟨ao', cap', by rw [hl]; simpa using blk_set h1 0 (.slice ao' n' cap'), ?_, ?_, ?_, h5', by simp; omega, h7', h8, by simpa using h9⟩
 · rcases h7' with h7 | h7
   · exact Or.inl h7
   have h2' : IntsAt .u8 w ao' (st.1.drop k) := by
    rcases hv ao cap c0 with ⟨h, rfl, _⟩ | ⟨rfl, _⟩
    · exact Or.inl (by simp; omega)
    · rcases h2 with h2 | ⟨b, off, rfl, hc⟩
      · exact Or.inl (by rw [h2]; simp)
      · refine Or.inr ⟨b, off + k, by rw [Option.map_some, addr_add], fun i hi => ?_⟩
        simp only [List.length_drop] at hi
        rw [show off + k + i = off + (k + i) by omega, hc (k + i) (by omega)]
        simp [List.getD]
   exact h2'.same (fun a ha hl => Below.heap_setCell _ _ _ _ (by rw [h7 a ha]; exact h8))
 · rcases hv ao cap c0 with ⟨h, _, rfl⟩ | ⟨_, rfl⟩ <;> simp <;> omega
 · rcases hv ao cap c0 with ⟨h, _, rfl⟩ | ⟨_, rfl⟩ <;> omega
def BytesIn (w : World) (p g : Nat) (n : Nat) (st : InS) (e : Ending) (w' : World) : Prop :=
 ∃ ao cap, e = .returned (.slice ao n cap) ∧ (inBytes n st).1.length = n ∧ IntsAt .u8 w' ao (inBytes n st).1 ∧ InB (inBytes n st).1 ∧ n ≤ cap ∧ cap ≤ maxLen ∧ InAt 153 w' p g (inBytes n st).2 ∧ Keeps (fun k => k = p) w w'
set_option maxRecDepth 100000 in
set_option maxHeartbeats 1000000 in
theorem in_bytes (p g n : Nat) (st : InS) (w : World) (h : InAt 153 w p g st) (hn : n ≤ 1000000) :
 Calls Tryz.prog 108 #[.pointer (some ⟨p, 0, none⟩), .int .i64 n] w (BytesIn w p g n st) := by
 obtain ⟨ao, cap, c0, c1, f0, f1, h2, h3, h4⟩ := h.cells
 have H := Lib.hid h
 have hpl := h.lt
 by_cases hl : st.1.length < n
 · have HF := Lib.hid (show inBytes n st = (List.replicate n 0, ([], true)) by simp [inBytes, hl])
   have hi : (st.1.length : Int) < (n : Int) := by omega
   obtain ⟨i0, hi0, hz0, hz1, hz2⟩ := info_parts Try_infoU8
   have hk2 : Keeps (fun k => k = p) w ((w.setCell ⟨p, 0, none⟩ (.slice none 0 0)).setCell ⟨p, 1, none⟩ (.bool true)) := ((Keeps.refl (fun k => k = p) _).setCell (p := ⟨p, 0, none⟩) (Or.inl rfl) _).setCell (p := ⟨p, 1, none⟩) (Or.inl rfl) _
   obtain ⟨w', hr, hown, hgrow⟩ := run_make_full (P := Tryz.prog) ((w.setCell ⟨p, 0, none⟩ (.slice none 0 0)).setCell ⟨p, 1, none⟩ (.bool true)) 0 62 5 i0 (.int .u8 0) 1 Tryz.underlying62 hi0 hz0 hz1 .i64 .i64 n (by rw [hz2]; omega) (by unfold maxLen; omega) (Nat.zero_le _)
   have HP : Hid (BytesIn w p g n st (.returned (.slice (some ⟨w.heap.size, 0, none⟩) n n)) w') := Lib.hid (by
    rw [show ((w.setCell ⟨p, 0, none⟩ (.slice none 0 0)).setCell ⟨p, 1, none⟩ (.bool true)).heap.size = w.heap.size by simp] at hown
    have e : (madeCells (Value.int .u8 0).cells (n * 1)).toList = (List.replicate n (0 : Int)).map (Value.int .u8) := by
     have e2 : (Value.int .u8 0).cells = #[.int .u8 0] := rfl
     rw [e2, toList_madeCells_one, Nat.mul_one, List.map_replicate]
    rw [e] at hown
    obtain ⟨_, g2, g3, g4⟩ := owns_at hown
    have hbl : Below ((w.setCell ⟨p, 0, none⟩ (.slice none 0 0)).setCell ⟨p, 1, none⟩ (.bool true)).heap.size ((w.setCell ⟨p, 0, none⟩ (.slice none 0 0)).setCell ⟨p, 1, none⟩ (.bool true)) w' := (Below.refl _ _).grown hgrow (Nat.le_refl _) (fun k hk => by cases hk)
    have hin := H.out.none_.below hbl
    refine ⟨_, n, rfl, ?_⟩
    rw [HF.out]
    refine ⟨by simp, g2, fun z hz => ?_, Nat.le_refl _, g4, hin, hk2.trans (Keeps.of_below (S := fun _ => False) hbl) (fun _ f => f.elim)⟩
    have := List.eq_of_mem_replicate hz
    omega)
   clear h h2 hown hgrow hk2
   go_enter Tryz.func108, Tryz.ntmps108
   go_wp2
   go_ret
   exact HP.out
 · have HF := Lib.hid (show inBytes n st = (st.1.take n, (st.1.drop n, st.2)) by simp [inBytes, hl])
   have hi : ¬ (st.1.length : Int) < (n : Int) := by omega
   have hle : (n : Int) ≤ (st.1.length : Int) := by omega
   have hle2 : (n : Int) ≤ (cap : Int) := by omega
   have HI := Lib.hid h2
   clear h h2
   go_enter Tryz.func108, Tryz.ntmps108
   go_wp2
   all_goals
    go_ret
    refine ⟨_, _, rfl, ?_⟩
    rw [HF.out]
    have hin : InB st.1 := by obtain ⟨_, _, _, _, _, _, h5, _⟩ := H.out; exact h5
    have h7 : st.1 = [] ∨ ∀ a, ao = some a → a.block ≠ p := by
     obtain ⟨ao3, cap3, g1, _, _, _, _, _, g7, g8, _⟩ := H.out
     have c3 := blk_cell g1 0
     simp only [List.getElem?_toArray, List.getElem?_cons_zero] at c3
     rw [c0] at c3
     simp only [Option.some.injEq, Value.slice.injEq, true_and] at c3
     rw [c3.1]; exact g7.imp id (fun f a ha => by rw [f a ha]; exact g8)
    refine ⟨by simp; omega, ?_, fun z hz => hin z (List.mem_of_mem_take hz), by omega, by first | exact h4 | omega, H.out.cut n (by omega) _ _ _ (fun ao2 cap2 hc2 => by
     rw [c0] at hc2
     simp only [Option.some.injEq, Value.slice.injEq, true_and] at hc2
     obtain ⟨rfl, rfl⟩ := hc2
     first | exact Or.inr ⟨rfl, rfl⟩ | exact Or.inl ⟨by omega, rfl, rfl⟩) rfl, (Keeps.refl (fun k => k = p) _).setCell (p := ⟨p, 0, none⟩) (Or.inl rfl) _⟩
    have h8 : IntsAt .u8 w ao (st.1.take n) := by
     rcases HI.out with h | ⟨b, off, h1, hc⟩
     · exact Or.inl (by rw [h]; simp)
     · refine Or.inr ⟨b, off, h1, fun i hi => ?_⟩
       simp only [List.length_take] at hi
       rw [hc i (by omega)]
       simp [List.getD, show i < n by omega]
    rcases h7 with h7 | h7
    · exact Or.inl (by rw [h7]; simp)
    · exact h8.same (fun a ha hl => Below.heap_setCell _ _ _ _ (h7 a ha))
def NumIn (w : World) (p g k : Nat) (st : InS) (e : Ending) (w' : World) : Prop := e = .returned (.int .i64 (inNum k st).1) ∧ InAt 153 w' p g (inNum k st).2 ∧ Keeps (fun i => i = p) w w'
theorem valB_zeros (k : Nat) : valB (List.replicate k 0) = 0 := by
 induction k with
 | zero => rfl
 | succ k ih => rw [List.replicate_succ, valB_cons, ih]; simp
theorem inNum_bytes (k : Nat) (st : InS) : inNum k st = (if MA < valB (inBytes k st).1 then 0 else valB (inBytes k st).1, ((inBytes k st).2.1, (inBytes k st).2.2 || decide (MA < valB (inBytes k st).1))) := by
 unfold inNum inBytes
 by_cases h : st.1.length < k
 · simp only [if_pos h, valB_zeros]
   rw [if_neg (by unfold MA; omega)]
   simp
 · simp only [if_neg h]
   by_cases h2 : MA < valB (st.1.take k)
   · simp [h2]
   · simp [h2]
theorem decNum_full (zs : List Int) (k : Nat) (hk : 1 ≤ k ∧ k ≤ 8) (hl : zs.length = k) : decNum zs 0 k = if MA < valB zs then (0, zs, 2) else (valB zs, [], 0) := by
 have e1 : mayB (k : Int) = true := by simp [mayB]; omega
 have e2 : ¬ ((zs.length : Nat) : Int) < (k : Int) := by omega
 have e3 : zs.take ((k : Int).toNat) = zs := by rw [Int.toNat_natCast]; exact List.take_of_length_le (by omega)
 have e4 : zs.drop ((k : Int).toNat) = [] := by rw [Int.toNat_natCast]; exact List.drop_eq_nil_of_le (by omega)
 unfold decNum numF
 rw [if_pos e1, if_neg e2, e3, e4]
 by_cases h : MA < valB zs
 · simp [h]
 · simp [h]
set_option maxRecDepth 100000 in
set_option maxHeartbeats 1000000 in
theorem in_num (p g k : Nat) (st : InS) (w : World) (h : InAt 153 w p g st) (hk : 1 ≤ k ∧ k ≤ 8) :
 Calls Tryz.prog 107 #[.pointer (some ⟨p, 0, none⟩), .int .i64 k] w (NumIn w p g k st) := by
 have HIN := Lib.hid (inNum_bytes k st)
 have HBY := Lib.hid (in_bytes p g k st w h (by omega))
 have hpl := h.lt
 clear h
 go_enter Tryz.func107, Tryz.ntmps107
 go_wp2_with fail
 refine HBY.out.mono ?_
 rintro en w1 ⟨ao, cap, rfl, hl, hi, hB, hc, hcm, hin, hk1⟩
 have HI := Lib.hid hi
 have HN1 := Lib.hid hin
 have HK1 := Lib.hid hk1
 have HDN := Lib.hid (decNum_full (inBytes k st).1 k hk hl)
 have HBB := Lib.hid hB
 have HL := Lib.hid hl
 have hpl1 := hin.lt
 generalize inBytes k st = r at *
 obtain ⟨zs, st1⟩ := r
 clear hi hB hin hk1 hl
 go_wp2_with fail
 refine (newDec ao zs k cap w1 HL.out HI.out HBB.out (by omega)).mono ?_
 rintro en w2 ⟨q, gd, rfl, hd2, hb2, hq, hg⟩
 have HB2 := Lib.hid hb2
 have HN2 := Lib.hid (HN1.out.below hb2)
 have HD2 := Lib.hid hd2
 clear hd2 hb2
 go_wp2_with fail
 refine (dec_num q gd zs 0 k w2 HD2.out).mono ?_
 rintro en w3 ⟨rfl, hd3, hk3⟩
 have hb3 : Below w1.heap.size w1 w3 := HB2.out.trans (hk3.below HB2.out.size (fun i hi => by omega))
 have hn3 := HN1.out.below hb3
 have HN3 := Lib.hid hn3
 have HK3 := Lib.hid (HK1.out.trans (Keeps.of_below (S := fun _ => False) hb3) (fun _ f => f.elim))
 obtain ⟨ao3, cap3, c0, c1, f0, f1, _⟩ := hn3.cells
 have HD3 := Lib.hid hd3
 have HIN2 := HIN.out
 clear hd3 hk3 hn3 hb3
 by_cases hbig : MA < valB zs
 · have e1 : decNum zs 0 k = (0, zs, 2) := by rw [HDN.out, if_pos hbig]
   have HR := Lib.hid (show inNum k st = (0, (st1.1, true)) by rw [HIN2]; simp [hbig])
   rw [e1] at HD3 ⊢
   clear hbig e1 HIN2
   have hDE : decEnd zs 2 = 2 := rfl
   have HDE := Lib.hid hDE
   clear hDE
   cases hbad : st1.2
   · rw [hbad] at c1
     go_wp2_with (go_at_call 42; refine (dec_end q gd zs 2 w3 HD3.out).mono ?_; rintro en w4 ⟨rfl, rfl⟩; rw [HDE.out])
     go_ret
     refine ⟨ret_int (by rw [HR.out]), by rw [HR.out]; exact HN3.out.flag true, HK3.out.setCell (p := ⟨p, 1, none⟩) (Or.inl rfl) _⟩
   · rw [hbad] at c1
     go_wp2
     go_ret
     refine ⟨ret_int (by rw [HR.out]), by rw [HR.out]; exact HN3.out.flag true, HK3.out.setCell (p := ⟨p, 1, none⟩) (Or.inl rfl) _⟩
 · have e1 : decNum zs 0 k = (valB zs, [], 0) := by rw [HDN.out, if_neg hbig]
   have HR := Lib.hid (show inNum k st = (valB zs, (st1.1, st1.2)) by rw [HIN2]; simp [hbig])
   rw [e1] at HD3 ⊢
   clear hbig e1 HIN2
   have hDE : decEnd [] 0 = 0 := rfl
   have HDE := Lib.hid hDE
   clear hDE
   generalize valB zs = x at *
   cases hbad : st1.2
   · rw [hbad] at c1
     go_wp2_with (go_at_call 42; refine (dec_end q gd [] 0 w3 HD3.out).mono ?_; rintro en w4 ⟨rfl, rfl⟩; rw [HDE.out])
     go_ret
     refine ⟨ret_int (by rw [HR.out]), by rw [HR.out, hbad]; exact HN3.out.flag false, HK3.out.setCell (p := ⟨p, 1, none⟩) (Or.inl rfl) _⟩
   · rw [hbad] at c1
     go_wp2
     go_ret
     refine ⟨ret_int (by rw [HR.out]), by rw [HR.out, hbad]; exact HN3.out.flag true, HK3.out.setCell (p := ⟨p, 1, none⟩) (Or.inl rfl) _⟩
structure RdAt (w0 wr : World) (p g R E q : Nat) (nm : List Int) (k : Nat) (x : EV × InS) : Prop where
 rd : InAt 153 wr p g x.2
 ev : wr.heap[E]? = some (.cells x.1.cells 55 (0, 0))
 iter : wr.heap[q]? = some (.stringIter (bytesOf nm) k)
 res : wr.heap[R]? = some (.cells ev0.cells 55 (0, 0))
 keep : Keeps (fun i => i = p) w0 wr
 bR : w0.heap.size ≤ R
 bE : w0.heap.size ≤ E
 bq : w0.heap.size ≤ q
 pl : p < w0.heap.size
 gl : g < w0.heap.size
 RE : R ≠ E
section
variable {w0 wr w' : World} {p g R E q : Nat} {nm : List Int} {k : Nat} {x : EV × InS}
theorem RdAt.far (h : RdAt w0 wr p g R E q nm k x) : E ≠ q ∧ R ≠ q := by
 refine ⟨fun e => ?_, fun e => ?_⟩
 · have h1 := h.ev; rw [e, h.iter] at h1; cases h1
 · have h1 := h.res; rw [e, h.iter] at h1; cases h1
theorem RdAt.next (h : RdAt w0 wr p g R E q nm k x) (hi : w'.heap[q]? = some (.stringIter (bytesOf nm) (k + 1))) (hk : Keeps (fun i => i = q) wr w') : RdAt w0 w' p g R E q nm (k + 1) x := by
 obtain ⟨f1, f2⟩ := h.far
 have a1 := h.pl; have a2 := h.gl; have a3 := h.bq
 exact ⟨h.rd.keep hk (by omega) (by omega), (hk.block E (blk_lt h.ev) f1).trans h.ev, hi, (hk.block R (blk_lt h.res) f2).trans h.res, h.keep.trans hk (fun i hi => Or.inr (by subst hi; exact h.bq)), h.bR, h.bE, h.bq, h.pl, h.gl, h.RE⟩
theorem RdAt.read (h : RdAt w0 wr p g R E q nm k x) {st : InS} (hr : InAt 153 w' p g st) (hk : Keeps (fun i => i = p) wr w') : RdAt w0 w' p g R E q nm k (x.1, st) := by
 have a1 := h.pl; have a3 := h.bq; have a4 := h.bE; have a5 := h.bR
 exact ⟨hr, (hk.block E (blk_lt h.ev) (by omega)).trans h.ev, (hk.block q (blk_lt h.iter) (by omega)).trans h.iter, (hk.block R (blk_lt h.res) (by omega)).trans h.res, h.keep.trans hk (fun i hi => Or.inl hi), h.bR, h.bE, h.bq, h.pl, h.gl, h.RE⟩
theorem RdAt.setE (h : RdAt w0 wr p g R E q nm k x) (j : Nat) (u : Value) (e' : EV) (he : x.1.cells.setIfInBounds j u = e'.cells) : RdAt w0 (wr.setCell ⟨E, j, none⟩ u) p g R E q nm k (e', x.2) := by
 obtain ⟨f1, f2⟩ := h.far
 have a1 := h.pl; have a2 := h.gl; have a4 := h.bE
 have hk : Keeps (fun i => i = E) wr (wr.setCell ⟨E, j, none⟩ u) := (Keeps.refl (fun i => i = E) wr).setCell (p := ⟨E, j, none⟩) (Or.inl rfl) u
 exact ⟨h.rd.keep hk (by omega) (by omega), by rw [← he]; exact blk_set h.ev j u, (hk.block q (blk_lt h.iter) (Ne.symm f1)).trans h.iter, (hk.block R (blk_lt h.res) h.RE).trans h.res, h.keep.trans hk (fun i hi => Or.inr (by subst hi; exact h.bE)), h.bR, h.bE, h.bq, h.pl, h.gl, h.RE⟩
theorem RdAt.cellE (h : RdAt w0 wr p g R E q nm k x) (j : Nat) : wr.cell? ⟨E, j, none⟩ = x.1.cells[j]? ∧ wr.frozen? ⟨E, j, none⟩ = false := ⟨blk_cell h.ev j, blk_frozen h.ev j⟩
theorem RdAt.cellR (h : RdAt w0 wr p g R E q nm k x) (j : Nat) : wr.cell? ⟨R, j, none⟩ = ev0.cells[j]? ∧ wr.frozen? ⟨R, j, none⟩ = false := ⟨blk_cell h.res j, blk_frozen h.res j⟩
end
theorem RdAt.close {w0 wr wF : World} {p g R E q : Nat} {nm : List Int} {k : Nat} {e' : EV} {st' : InS} (h : RdAt w0 wr p g R E q nm k (e', st')) (hw : wF = (((((((((wr.setCell ⟨R, 0, none⟩ (.int .i64 e'.k)).setCell ⟨R, 1, none⟩ (.int .i64 e'.f)).setCell ⟨R, 2, none⟩ (.int .i64 e'.t)).setCell ⟨R, 3, none⟩ (.int .i64 e'.a)).setCell ⟨R, 4, none⟩ (.int .i64 e'.n)).setCell ⟨R, 5, none⟩ (.int .i64 e'.i)).setCell ⟨R, 6, none⟩ (.int .i64 e'.d)).setCell ⟨R, 7, none⟩ (.string e'.h)).setCell ⟨R, 8, none⟩ (.string e'.s))) :
 InAt 153 wF p g st' ∧ Keeps (fun i => i = p) w0 wF ∧ wF.heap[R]? = some (.cells e'.cells 55 (0, 0)) := by
 have a1 := h.pl; have a2 := h.gl; have a5 := h.bR
 have k0 := Keeps.refl (fun i => i = R) wr
 have k1 := k0.setCell (p := ⟨R, 0, none⟩) (Or.inl rfl) (.int .i64 e'.k)
 have k2 := k1.setCell (p := ⟨R, 1, none⟩) (Or.inl rfl) (.int .i64 e'.f)
 have k3 := k2.setCell (p := ⟨R, 2, none⟩) (Or.inl rfl) (.int .i64 e'.t)
 have k4 := k3.setCell (p := ⟨R, 3, none⟩) (Or.inl rfl) (.int .i64 e'.a)
 have k5 := k4.setCell (p := ⟨R, 4, none⟩) (Or.inl rfl) (.int .i64 e'.n)
 have k6 := k5.setCell (p := ⟨R, 5, none⟩) (Or.inl rfl) (.int .i64 e'.i)
 have k7 := k6.setCell (p := ⟨R, 6, none⟩) (Or.inl rfl) (.int .i64 e'.d)
 have k8 := k7.setCell (p := ⟨R, 7, none⟩) (Or.inl rfl) (.string e'.h)
 have k9 := k8.setCell (p := ⟨R, 8, none⟩) (Or.inl rfl) (.string e'.s)
 have hk : Keeps (fun i => i = R) wr wF := by rw [hw]; exact k9
 refine ⟨h.rd.keep hk (by omega) (by omega), h.keep.trans hk (fun i hi => Or.inr (by subst hi; exact a5)), ?_⟩
 rw [hw]
 have b0 := blk_set h.res 0 (.int .i64 e'.k)
 have b1 := blk_set b0 1 (.int .i64 e'.f)
 have b2 := blk_set b1 2 (.int .i64 e'.t)
 have b3 := blk_set b2 3 (.int .i64 e'.a)
 have b4 := blk_set b3 4 (.int .i64 e'.n)
 have b5 := blk_set b4 5 (.int .i64 e'.i)
 have b6 := blk_set b5 6 (.int .i64 e'.d)
 have b7 := blk_set b6 7 (.string e'.h)
 have b8 := blk_set b7 8 (.string e'.s)
 rw [b8]
 simp [EV.cells, ev0]
def EvIn (w : World) (p g : Nat) (ev : Bool) (st : InS) (e : Ending) (w' : World) : Prop := e = .returned (.agg (evIn ev st).1.cells) ∧ InAt 153 w' p g (evIn ev st).2 ∧ Keeps (fun i => i = p) w w'
theorem foldIn_snoc (nm : List Int) (x0 : EV × InS) (k : Nat) (h : k < nm.length) : (nm.take (k + 1)).foldl stepIn x0 = stepIn ((nm.take k).foldl stepIn x0) nm[k] := by
 rw [List.take_succ_eq_append_getElem h, List.foldl_append]; rfl
theorem bytesOf_str (zs : List Int) : bytesOf zs = strOfNums zs := by
 apply ByteArray.ext
 apply Array.ext'
 rw [strOfNums_data]
 simp [bytesOf]
theorem evIn_def (ev : Bool) (st : InS) : evIn ev st = (hasN (inNum 1 st).1 ev).foldl stepIn (ev0.setN (inNum 1 st).1 0, (inNum 1 st).2) := rfl
set_option maxRecDepth 100000 in
set_option maxHeartbeats 4000000 in
theorem in_event (p g : Nat) (ev : Bool) (st : InS) (w : World) (h : InAt 153 w p g st) :
 Calls Tryz.prog 75 #[.pointer (some ⟨p, 0, none⟩), .bool ev] w (EvIn w p g ev st) := by
 obtain ⟨w1, hw1⟩ : ∃ w1, w1 = w.alloc (.cells #[.int .i64 0, .int .i64 0, .int .i64 0, .int .i64 0, .int .i64 0, .int .i64 0, .int .i64 0, .string ⟨#[]⟩, .string ⟨#[]⟩] 55) := ⟨_, rfl⟩
 have hb1 : Below w.heap.size w w1 := by rw [hw1]; exact (Below.refl _ _).alloc (Nat.le_refl _) _
 have HN := Lib.hid (in_num p g 1 st w1 (h.below hb1) (by omega))
 have HB1 := Lib.hid hb1
 have HR1 : Hid (w1.heap[w.heap.size]? = some (.cells ev0.cells 55 (0, 0))) := Lib.hid (by rw [hw1]; exact heap_alloc_new w _)
 have HW1 := Lib.hid hw1
 have hpl := h.lt
 obtain ⟨hgl, hgp⟩ := h.glt
 have HDEF := Lib.hid (evIn_def ev st)
 clear h hw1 hb1
 go_enter Tryz.func75, Tryz.ntmps75
 go_wp2_with fail
 rw [← HW1.out]
 refine HN.out.mono ?_
 rintro en w2 ⟨rfl, hi2, hk2⟩
 have HI2 := Lib.hid hi2
 have HK2 := Lib.hid ((Keeps.of_below (S := fun i => i = p) HB1.out).trans hk2 (fun _ h => Or.inl h))
 have HR2 : Hid (w2.heap[w.heap.size]? = some (.cells ev0.cells 55 (0, 0))) := Lib.hid ((hk2.block _ (blk_lt HR1.out) (by omega)).trans HR1.out)
 generalize hX : inNum 1 st = X at *
 obtain ⟨kk, st1⟩ := X
 clear hi2 hk2 hX
 go_wp2_with (go_at_call 72; refine (has_any kk ev _).mono ?_; rintro en w4 ⟨rfl, rfl⟩)
 obtain ⟨w5, hw5⟩ : ∃ w5, w5 = (w2.alloc (.cells #[.int .i64 kk, .int .i64 0, .int .i64 0, .int .i64 0, .int .i64 0, .int .i64 0, .int .i64 0, .string ⟨#[]⟩, .string ⟨#[]⟩] 55)).iter (bytesOf (hasN kk ev)) 0 := ⟨_, rfl⟩
 rw [← hw5]
 have HE0 : Hid (RdAt w w5 p g w.heap.size w2.heap.size (w2.heap.size + 1) (hasN kk ev) 0 (ev0.setN kk 0, st1)) := Lib.hid (by
  have hs := HK2.out.size
  have hr2 := blk_lt HR2.out
  have e1 : (w2.alloc (.cells #[.int .i64 kk, .int .i64 0, .int .i64 0, .int .i64 0, .int .i64 0, .int .i64 0, .int .i64 0, .string ⟨#[]⟩, .string ⟨#[]⟩] 55)).heap.size = w2.heap.size + 1 := by simp
  have h25 : Below w2.heap.size w2 w5 := by subst hw5; exact ((Below.refl _ _).alloc (Nat.le_refl _) _).alloc (by omega) _
  refine ⟨HI2.out.below h25, ?_, ?_, (h25.block _ hr2).trans HR2.out, HK2.out.trans (Keeps.of_below (S := fun _ => False) h25) (fun _ f => f.elim), Nat.le_refl _, by omega, by omega, hpl, hgl, by omega⟩
  · subst hw5; exact (Below.heap_alloc _ _ _ (by omega)).trans (heap_alloc_new w2 _)
  · subst hw5; rw [← e1]; exact World.iter_heap _ _ _)
 obtain ⟨hn1, _⟩ := hasN_in kk ev
 have HNI := Lib.hid hn1
 clear hw5 hn1
 generalize hasN kk ev = nm at *
 generalize w2.heap.size = E at *
 have hR : w.heap.size = w.heap.size := rfl
 go_loopg [7] nm.length (fun gg sg wr => ∃ k, k + gg = nm.length ∧ RdAt w wr p g w.heap.size E (E + 1) nm k ((nm.take k).foldl stepIn (ev0.setN kk 0, st1)))
 case atStart => exact ⟨0, by omega, HE0.out⟩
 case round =>
  obtain ⟨k, hkg, hE⟩ := hrel
  by_cases hlt : k < nm.length
  · have hks : k < (bytesOf nm).size := by rw [bytesOf_size]; exact hlt
    have hck := HNI.out nm[k] (List.getElem_mem hlt)
    have hget := bytesOf_get nm HNI.out k hks
    obtain ⟨w6, hnx, hi6, hk6⟩ := next_step (P := Tryz.prog) wr (E + 1) (bytesOf nm) k hE.iter hks (by omega)
    rw [hget] at hnx
    have HE6 := Lib.hid (hE.next hi6 hk6)
    have HSN := Lib.hid (foldIn_snoc nm (ev0.setN kk 0, st1) k hlt)
    have hEl := blk_lt HE6.out.ev
    clear hget hi6 hk6 hE
    generalize (nm.take k).foldl stepIn (ev0.setN kk 0, st1) = x at *
    obtain ⟨e', st'⟩ := x
    generalize nm[k] = c at *
    cases hc : numSign c with
    | some jz =>
      obtain ⟨j, z⟩ := jz
      obtain ⟨hj1, hj2, hz1, hz2⟩ := numSign_in hc
      have HC := Lib.hid hc
      have HST := Lib.hid (show stepIn (e', st') c = (e'.setN (inNum z.toNat st').1 j, (inNum z.toNat st').2) by simp [stepIn, hc])
      obtain ⟨zz, rfl⟩ := Int.eq_ofNat_of_zero_le (show 0 ≤ z by omega)
      simp only [Int.toNat_natCast] at HST
      clear hc
      go_wp2_with (go_at_call 105; refine (number_num E c j zz _ hEl HC.out).mono ?_; rintro en w7 ⟨rfl, rfl⟩)
      refine (in_num p g zz st' w6 HE6.out.rd (by omega)).mono ?_
      rintro en w7 ⟨rfl, hi7, hk7⟩
      have HE7 := Lib.hid (HE6.out.read hi7 hk7)
      generalize inNum zz st' = y at *
      obtain ⟨v, st2⟩ := y
      obtain ⟨c7, f7⟩ := HE7.out.cellE j
      rw [EV.cell_num _ _ hj2] at c7
      clear hi7 hk7
      go_wp2
      go_roundg (gk - 1)
      case measure => omega
      case rel => exact ⟨k + 1, by omega, by rw [HSN.out, HST.out]; exact HE7.out.setE j _ _ (EV.set_num _ v _ hj2)⟩
    | none =>
      have HC := Lib.hid hc
      have HST := Lib.hid (show stepIn (e', st') c = (e'.setT (bytesOf (inBytes 32 st').1) (txtSign c), (inBytes 32 st').2) by simp only [stepIn, hc])
      have hj := txtSign_in c
      have HJ := Lib.hid hj
      have HS2 := Lib.hid (fun u : ByteArray => EV.set_txt e' u (txtSign c) HJ.out)
      have HBY := Lib.hid (in_bytes p g 32 st' w6 HE6.out.rd (by omega))
      generalize hJJ : txtSign c = j at *
      have HJJ := Lib.hid hJJ
      clear hc hj hJJ
      go_wp2_with (first
       | (go_at_call 105; refine (number_txt E c _ HC.out).mono ?_; rintro en w7 ⟨rfl, rfl⟩)
       | (go_at_call 106; refine (text_any E c _).mono ?_; rintro en w7 ⟨rfl, rfl⟩; rw [HJJ.out]))
      refine HBY.out.mono ?_
      rintro en w7 ⟨ao, cap, rfl, hl, hi, hB, hc, hcm, hin, hk7⟩
      have HE7 := Lib.hid (HE6.out.read hin hk7)
      have hcv := conv_u8 (P := Tryz.prog) cap 62 5 9 Tryz.underlying62 Tryz.underlying5 Tryz.underlying9 hi hl
      rw [← bytesOf_str] at hcv
      generalize inBytes 32 st' = y at *
      obtain ⟨zs, st2⟩ := y
      have c7 : ∃ v, w7.cell? ⟨E, j, none⟩ = some v := by
       rw [(HE7.out.cellE j).1]
       rcases HJ.out with h | h <;> subst h <;> exact ⟨_, rfl⟩
      obtain ⟨v7, c7⟩ := c7
      have f7 := (HE7.out.cellE j).2
      have HU := Lib.hid (HE7.out.setE j _ _ (HS2.out (bytesOf zs)))
      clear hi hB hin hk7
      go_wp2
      go_roundg (gk - 1)
      case measure => omega
      case rel => exact ⟨k + 1, by omega, by rw [HSN.out, HST.out]; exact HU.out⟩
  · obtain rfl : k = nm.length := by omega
    have hnx := fun ty => next_stop (P := Tryz.prog) wr (E + 1) (bytesOf nm) nm.length hE.iter (by rw [bytesOf_size]; omega) ty
    rw [List.take_of_length_le (Nat.le_refl _)] at hE
    have HEE := Lib.hid hE
    have hcE := fun i => (hE.cellE i).1
    have d0 := hcE 0
    have d1 := hcE 1
    have d2 := hcE 2
    have d3 := hcE 3
    have d4 := hcE 4
    have d5 := hcE 5
    have d6 := hcE 6
    have d7 := hcE 7
    have d8 := hcE 8
    have hcR := fun i => (hE.cellR i).1
    have hfR := fun i => (hE.cellR i).2
    have r0 := hcR 0
    have s0 := hfR 0
    have r1 := hcR 1
    have s1 := hfR 1
    have r2 := hcR 2
    have s2 := hfR 2
    have r3 := hcR 3
    have s3 := hfR 3
    have r4 := hcR 4
    have s4 := hfR 4
    have r5 := hcR 5
    have s5 := hfR 5
    have r6 := hcR 6
    have s6 := hfR 6
    have r7 := hcR 7
    have s7 := hfR 7
    have r8 := hcR 8
    have s8 := hfR 8
    generalize nm.foldl stepIn (ev0.setN kk 0, st1) = x at *
    obtain ⟨e', st'⟩ := x
    simp only [EV.cells, ev0, lq] at d0 r0 d1 r1 d2 r2 d3 r3 d4 r4 d5 r5 d6 r6 d7 r7 d8 r8
    clear hE hcE hcR hfR hlt
    go_wp2
    obtain ⟨wF, hwF⟩ : ∃ wF, wF = (((((((((wr.setCell ⟨w.heap.size, 0, none⟩ (.int .i64 e'.k)).setCell ⟨w.heap.size, 1, none⟩ (.int .i64 e'.f)).setCell ⟨w.heap.size, 2, none⟩ (.int .i64 e'.t)).setCell ⟨w.heap.size, 3, none⟩ (.int .i64 e'.a)).setCell ⟨w.heap.size, 4, none⟩ (.int .i64 e'.n)).setCell ⟨w.heap.size, 5, none⟩ (.int .i64 e'.i)).setCell ⟨w.heap.size, 6, none⟩ (.int .i64 e'.d)).setCell ⟨w.heap.size, 7, none⟩ (.string e'.h)).setCell ⟨w.heap.size, 8, none⟩ (.string e'.s)) := ⟨_, rfl⟩
    rw [← hwF]
    obtain ⟨g1, g2, g3⟩ := HEE.out.close hwF
    have q := blk_cell g3
    have q0 := q 0; have q1 := q 1; have q2 := q 2; have q3 := q 3; have q4 := q 4; have q5 := q 5; have q6 := q 6; have q7 := q 7; have q8 := q 8
    simp only [EV.cells, lq] at q0 q1 q2 q3 q4 q5 q6 q7 q8
    refine bodyPost_ret (v := .agg #[.int .i64 e'.k, .int .i64 e'.f, .int .i64 e'.t, .int .i64 e'.a, .int .i64 e'.n, .int .i64 e'.i, .int .i64 e'.d, .string e'.h, .string e'.s]) (by simp [results, Tryz.results75, go_sem, *]) rfl ⟨?_, ?_, g2⟩
    · rw [HDEF.out]; rfl
    · rw [HDEF.out]; exact g1
structure RowBox (w0 wr : World) (p g X : Nat) (T : TypeId) (CS : Array Value) (te : TypeId) (sz : Nat) (v : Value) (n : Nat) (xs : List Value) (st : InS) : Prop where
 rd : InAt 153 wr p g st
 box : wr.heap[X]? = some (.cells CS T (0, 0))
 own : wr.ownsRow 0 te sz v n xs
 fresh : ∀ b, v.ownBlock = some b → w0.heap.size ≤ b
 keep : Keeps (fun i => i = p ∨ i = X) w0 wr
 pl : p < w0.heap.size
 xl : X < w0.heap.size
 gl : g < w0.heap.size
 gX : g ≠ X
 pX : p ≠ X
section
variable {w0 wr w2 w3 w4 w' : World} {p g X : Nat} {T : TypeId} {CS : Array Value} {te : TypeId} {sz : Nat} {v v' : Value} {n n' : Nat} {xs xs' : List Value} {st st2 : InS}
theorem RowBox.below (h : RowBox w0 wr p g X T CS te sz v n xs st) (hb : Below wr.heap.size wr w') : RowBox w0 w' p g X T CS te sz v n xs st :=
 ⟨h.rd.below hb, (hb.block _ (blk_lt h.box)).trans h.box, ownsRow_same h.own (fun b hbk => hb.block _ (h.own.lt b hbk).2), h.fresh, h.keep.trans (Keeps.of_below (S := fun _ => False) hb) (fun _ f => f.elim), h.pl, h.xl, h.gl, h.gX, h.pX⟩
theorem RowBox.drew (h : RowBox w0 wr p g X T CS te sz v n xs st) : RowBox w0 wr.drew p g X T CS te sz v n xs st := h.below ((Keeps.refl (fun _ => False) wr).drew.below (Nat.le_refl _) (fun _ f => f.elim))
theorem RowBox.cells (h : RowBox w0 wr p g X T CS te sz v n xs st) (j : Nat) : wr.cell? ⟨X, j, none⟩ = CS[j]? ∧ wr.frozen? ⟨X, j, none⟩ = false := ⟨blk_cell h.box j, blk_frozen h.box j⟩
end
set_option maxHeartbeats 1000000 in
theorem bytes_equal (ao bo : Option Addr) (xs ys : List Int) (n m c d : Nat) (w : World) (hn : xs.length = n) (hm : ys.length = m) (hx : IntsAt .u8 w ao xs) (hy : IntsAt .u8 w bo ys) (rx : InB xs) (ry : InB ys) :
 Calls Tryz.prog 44 #[.slice ao n c, .slice bo m d] w fun e w' => e = .returned (.bool (eqB xs ys)) ∧ w = w' := by
 have h1 := conv_u8 (P := Tryz.prog) c 62 5 9 Tryz.underlying62 Tryz.underlying5 Tryz.underlying9 hx hn
 have h2 := conv_u8 (P := Tryz.prog) d 62 5 9 Tryz.underlying62 Tryz.underlying5 Tryz.underlying9 hy hm
 have HE := Lib.hid (strOf_inj rx ry)
 clear hn hm hx hy rx ry
 go_enter Tryz.func44, Tryz.ntmps44
 go_wp2
 go_ret
 exact ⟨ret_bool HE.out, rfl⟩
theorem bytesOf_le (n : Nat) (st : InS) : (bytesOf (inBytes n st).1).size ≤ n := by
 rw [bytesOf_size]
 unfold inBytes
 split
 · simp
 · simp; omega
theorem stepIn_size (x : EV × InS) (c : Int) (h : x.1.h.size ≤ 32 ∧ x.1.s.size ≤ 32) : (stepIn x c).1.h.size ≤ 32 ∧ (stepIn x c).1.s.size ≤ 32 := by
 unfold stepIn
 split
 · rename_i j z hc
   obtain ⟨h1, h2, _, _⟩ := numSign_in hc
   have e : ∀ v, (x.1.setN v j).h = x.1.h ∧ (x.1.setN v j).s = x.1.s := by
    intro v
    match j, h2 with
    | 0, _ => exact ⟨rfl, rfl⟩
    | 1, _ => exact ⟨rfl, rfl⟩
    | 2, _ => exact ⟨rfl, rfl⟩
    | 3, _ => exact ⟨rfl, rfl⟩
    | 4, _ => exact ⟨rfl, rfl⟩
    | 5, _ => exact ⟨rfl, rfl⟩
    | 6, _ => exact ⟨rfl, rfl⟩
   simp only [e]
   exact h
 · have := bytesOf_le 32 x.2
   unfold EV.setT
   split
   · exact ⟨this, h.2⟩
   · exact ⟨h.1, this⟩
theorem foldIn_size (nm : List Int) (x : EV × InS) (h : x.1.h.size ≤ 32 ∧ x.1.s.size ≤ 32) : (nm.foldl stepIn x).1.h.size ≤ 32 ∧ (nm.foldl stepIn x).1.s.size ≤ 32 := by
 induction nm generalizing x with
 | nil => exact h
 | cons c nm ih => exact ih _ (stepIn_size x c h)
theorem evIn_size (ev : Bool) (st : InS) : (evIn ev st).1.h.size ≤ 32 ∧ (evIn ev st).1.s.size ≤ 32 := foldIn_size _ _ ⟨Nat.zero_le _, Nat.zero_le _⟩
theorem in_start {w : World} {ao : Option Addr} {zs : List Int} {n cap : Nat} {o : Obj} (T : TypeId) (hn : zs.length = n) (h : IntsAt .u8 w ao zs) (hB : InB zs) (hc : n ≤ cap) (hm : cap ≤ maxLen) (hl : n ≤ 140737488355328) :
 ∃ g, InAt T ((w.alloc o).alloc (.cells #[.slice ao n cap, .bool false] T)) (w.heap.size + 1) g (zs, false) ∧ g ≤ w.heap.size := by
 subst hn
 have e1 : (w.alloc o).heap.size = w.heap.size + 1 := by simp
 have hb : Below w.heap.size w ((w.alloc o).alloc (.cells #[.slice ao zs.length cap, .bool false] T)) := ((Below.refl _ _).alloc (Nat.le_refl _) _).alloc (by simp) _
 have hx : ((w.alloc o).alloc (.cells #[.slice ao zs.length cap, .bool false] T)).heap[w.heap.size + 1]? = some (.cells #[.slice ao zs.length cap, .bool false] T (0, 0)) := by rw [← e1]; exact heap_alloc_new _ _
 have hs : ((w.alloc o).alloc (.cells #[.slice ao zs.length cap, .bool false] T)).heap.size = w.heap.size + 2 := by simp
 by_cases h0 : zs = []
 · exact ⟨w.heap.size, ⟨ao, cap, hx, ints_below h hb, hc, hm, hB, hl, Or.inl h0, by omega, by rw [hs]; omega⟩, Nat.le_refl _⟩
 · rcases h with h | ⟨b, off, rfl, hcl⟩
   · exact absurd h h0
   · have hbl := World.block_lt_of_cell? w _ (hcl 0 (List.length_pos_iff.2 h0))
     have hbl : b < w.heap.size := hbl
     exact ⟨b, ⟨_, cap, hx, ints_below (Or.inr ⟨b, off, rfl, hcl⟩) hb, hc, hm, hB, hl, Or.inr (fun a ha => by cases ha; rfl), by omega, by rw [hs]; omega⟩, by omega⟩
end Go.Proofs.YtkaciaehlibidaaGreat
