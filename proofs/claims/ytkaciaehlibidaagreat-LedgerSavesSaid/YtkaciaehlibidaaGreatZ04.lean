/- Parts of the proof: Clone Sha7 Sha8 Sha9. -/
import Derived.Test.YtkaciaehlibidaaGreatZ01
import Derived.Test.YtkaciaehlibidaaGreatZ02
import Derived.Test.YtkaciaehlibidaaGreatZ03
import Derived.Deep.RegionHeld3
import Derived.RangeFuncNested
import Derived.RangeFuncBound
import Derived.RangeFuncCalls
import Derived.RangeFuncLeaves
import Derived.RangeFuncFrom
import Derived.Shelf.Abstract
import Derived.Shelf.RegionOpen
import Derived.OwnWalkIn
import Derived.TacticsInMore
import Derived.LoopNIn
import Derived.LoopIn
namespace Go.Proofs.YtkaciaehlibidaaGreat
open Go.RowKit
set_option linter.unusedVariables false
set_option linter.unusedSimpArgs false
theorem Try_infoU8 : (Tryz.prog.info? 5).map (fun i => (i.zero, i.size, i.bytes)) = some (some (.int .u8 0), 1, 1) := by kernel_rfl
set_option maxHeartbeats 1000000 in
theorem clone_u8 (ao : Option Addr) (zs : List Int) (n cap : Nat) (w : World) (hn : zs.length = n) (h : IntsAt .u8 w ao zs) (hm : n ≤ 140737488355328) :
 Calls Tryz.prog 70 #[.slice ao n cap] w fun e w' => RowPost w zs e w' := by
 have heq := fun w : World => Lib.run_eql_slice_nil (P := Tryz.prog) w 62 5 ao n cap 0 0 Tryz.underlying62
 have HN := Lib.hid hn
 have H := Lib.hid h
 clear hn
 cases ao with
 | none =>
   have h0 := ints_none h
   clear h
   go_enter Tryz.func70, Tryz.ntmps70
   go_wp2
   go_ret
   exact ⟨none, 0, ret_val (a := .slice none 0 0) (by rw [h0]), by rw [h0, List.length_eq_zero_iff.1 h0]; exact ⟨World.ownsRow_nil _ _ _ _, Below.refl _ _, fun g hg => by cases hg⟩⟩
 | some a =>
   obtain ⟨i0, hi, hz0, hz1, hz2⟩ := info_parts Try_infoU8
   clear h
   go_enter Tryz.func70, Tryz.ntmps70
   go_wp2_with (at_builtin; refine wpList_append_any rfl _ _ 62 rfl 5 i0 (.int .u8 0) 1 1 Tryz.underlying62 hi hz0 hz1 hz2 rfl (by decide) (.slice (some ⟨w.heap.size, 0, none⟩) 0 0) 0 [] rfl (World.ownsRow_made w #[] 0 (Nat.zero_le _) (Nat.zero_le _) rfl) (some a) n cap (zs.map (Value.int .u8)) rfl ?c1 ?c2 ?c3 (ints_one _ _) ?c5 ?c6 ?_)
   case c1 => simp; exact HN.out
   case c2 => intro e; cases e
   case c3 => exact src_ints (ints_below H.out ((Below.refl _ _).alloc (Nat.le_refl _) _))
   case c5 => unfold maxLen; omega
   case c6 => omega
   intro ao' cap' w1 hown hgrow hat hnn
   have HR : Hid (RowAt w (.slice ao' n cap') zs w1) := Lib.hid (by
    refine ⟨by rw [HN.out]; simpa using hown, ((Below.refl _ _).alloc (Nat.le_refl _) _).grown hgrow (by simp) (fun k hk => by simp only [Value.ownBlock, Option.some.injEq] at hk; omega), fun g hg => ?_⟩
    rcases hat g hg with e | e
    · simp only [Value.ownBlock, Option.some.injEq] at e; omega
    · rw [e]; simp)
   clear hown hgrow hat hnn
   go_wp2
   go_ret
   exact ⟨ao', cap', ret_val (a := .slice ao' n cap') (by rw [HN.out]), by rw [HN.out]; exact HR.out⟩
set_option maxHeartbeats 1000000 in
theorem copyBytes (ao : Option Addr) (zs : List Int) (n cap : Nat) (w : World) (hn : zs.length = n) (h : IntsAt .u8 w ao zs) (hm : n ≤ 140737488355328) :
 Calls Tryz.prog 109 #[.slice ao n cap] w fun e w' => RowPost w zs e w' := by
 have HN := Lib.hid hn
 have H := Lib.hid h
 obtain ⟨i0, hi, hz0, hz1, hz2⟩ := info_parts Try_infoU8
 clear hn h
 go_enter Tryz.func109, Tryz.ntmps109
 go_wp2_with (at_builtin; refine wpList_append_any rfl _ _ 62 rfl 5 i0 (.int .u8 0) 1 1 Tryz.underlying62 hi hz0 hz1 hz2 rfl (by decide) (.slice (some ⟨w.heap.size, 0, none⟩) 0 0) 0 [] rfl (World.ownsRow_made w #[] 0 (Nat.zero_le _) (Nat.zero_le _) rfl) ao n cap (zs.map (Value.int .u8)) rfl ?c1 ?c2 ?c3 (ints_one _ _) ?c5 ?c6 ?_)
 case c1 => simp; exact HN.out
 case c2 => intro e; have h := H.out; rw [e] at h; have := ints_none h; have := HN.out; omega
 case c3 => exact src_ints (ints_below H.out ((Below.refl _ _).alloc (Nat.le_refl _) _))
 case c5 => unfold maxLen; omega
 case c6 => omega
 intro ao' cap' w1 hown hgrow hat hnn
 have HR : Hid (RowAt w (.slice ao' n cap') zs w1) := Lib.hid (by
  refine ⟨by rw [HN.out]; simpa using hown, ((Below.refl _ _).alloc (Nat.le_refl _) _).grown hgrow (by simp) (fun k hk => by simp only [Value.ownBlock, Option.some.injEq] at hk; omega), fun g hg => ?_⟩
  rcases hat g (by simpa using hg) with e | e
  · simp only [Value.ownBlock, Option.some.injEq] at e; omega
  · rw [e]; simp)
 clear hown hgrow hat hnn
 go_wp2
 go_ret
 exact ⟨ao', cap', ret_val (a := .slice ao' n cap') (by rw [HN.out]), by rw [HN.out]; exact HR.out⟩
def HBlk (w : World) (p tb : Nat) (hs : List Int) (v : Value) (n : Int) : Prop :=
 ∃ a0 a1 a2 a3 a4 a5 a6 a7, hs = [a0, a1, a2, a3, a4, a5, a6, a7] ∧ w.heap[p]? = some (.cells #[.pointer (some ⟨tb, 0, none⟩), .int .u32 a0, .int .u32 a1, .int .u32 a2, .int .u32 a3, .int .u32 a4, .int .u32 a5, .int .u32 a6, .int .u32 a7, v, .int .u64 n] 193 (0, 0))
def hC (tb : Nat) (v : Value) (n : Int) : Array Value := #[.pointer (some ⟨tb, 0, none⟩), .int .u32 0, .int .u32 0, .int .u32 0, .int .u32 0, .int .u32 0, .int .u32 0, .int .u32 0, .int .u32 0, v, .int .u64 n]
section
variable {w w' : World} {p tb : Nat} {hs : List Int} {v : Value} {n : Int}
theorem HBlk.lt (h : HBlk w p tb hs v n) : p < w.heap.size := by
 obtain ⟨_, _, _, _, _, _, _, _, _, h⟩ := h
 exact blk_lt h
theorem HBlk.same (h : HBlk w p tb hs v n) (he : w'.heap[p]? = w.heap[p]?) : HBlk w' p tb hs v n := by
 obtain ⟨a0, a1, a2, a3, a4, a5, a6, a7, e, h⟩ := h
 exact ⟨a0, a1, a2, a3, a4, a5, a6, a7, e, he.trans h⟩
theorem HBlk.cells (h : HBlk w p tb hs v n) : w.cell? ⟨p, 0, none⟩ = some (.pointer (some ⟨tb, 0, none⟩)) ∧ w.cell? ⟨p, 9, none⟩ = some v ∧ w.cell? ⟨p, 10, none⟩ = some (.int .u64 n) ∧ w.frozen? ⟨p, 9, none⟩ = false ∧ w.frozen? ⟨p, 10, none⟩ = false := by
 obtain ⟨a0, a1, a2, a3, a4, a5, a6, a7, e, h⟩ := h
 exact ⟨blk_cell h 0, blk_cell h 9, blk_cell h 10, blk_frozen h 9, blk_frozen h 10⟩
theorem HBlk.words (h : HBlk w p tb hs v n) (j : Nat) (hj : j < 8) : w.cell? ⟨p, 1 + j, none⟩ = some (.int .u32 (hs.getD j 0)) := by
 obtain ⟨a0, a1, a2, a3, a4, a5, a6, a7, e, h⟩ := h
 subst e
 refine (blk_cell h _).trans ?_
 match j, hj with
 | 0, _ => rfl
 | 1, _ => rfl
 | 2, _ => rfl
 | 3, _ => rfl
 | 4, _ => rfl
 | 5, _ => rfl
 | 6, _ => rfl
 | 7, _ => rfl
theorem HBlk.setV (h : HBlk w p tb hs v n) (u : Value) : HBlk (w.setCell ⟨p, 9, none⟩ u) p tb hs u n := by
 obtain ⟨a0, a1, a2, a3, a4, a5, a6, a7, e, h⟩ := h
 exact ⟨a0, a1, a2, a3, a4, a5, a6, a7, e, by have := blk_set h 9 u; simpa using this⟩
theorem HBlk.setN (h : HBlk w p tb hs v n) (m : Int) : HBlk (w.setCell ⟨p, 10, none⟩ (.int .u64 m)) p tb hs v m := by
 obtain ⟨a0, a1, a2, a3, a4, a5, a6, a7, e, h⟩ := h
 exact ⟨a0, a1, a2, a3, a4, a5, a6, a7, e, by have := blk_set h 10 (.int .u64 m); simpa using this⟩
theorem HBlk.arr (h : HBlk w p tb hs v n) : ArrF w p 193 8 1 (fun j => hs.getD j 0) (hC tb v n) := by
 have hw := h.words
 obtain ⟨a0, a1, a2, a3, a4, a5, a6, a7, e, h⟩ := h
 refine ⟨_, h, rfl, by simp, fun j hj => (blk_cell h (1 + j)).symm.trans (hw j hj), fun j hj => ?_⟩
 rcases hj with hj | hj
 · obtain rfl : j = 0 := by omega
   rfl
 · match j, hj with
   | 9, _ => rfl
   | 10, _ => rfl
   | j + 11, _ => simp [hC]
theorem HBlk.of (h : ArrF w p 193 8 1 (fun j => hs.getD j 0) (hC tb v n)) (h8 : hs.length = 8) : HBlk w p tb hs v n := by
 obtain ⟨cs, h1, h0, h2, h3, h4⟩ := h
 match hs, h8 with
 | [a0, a1, a2, a3, a4, a5, a6, a7], _ =>
   refine ⟨a0, a1, a2, a3, a4, a5, a6, a7, rfl, ?_⟩
   rw [h1]
   congr 2
   apply Array.ext_getElem?
   intro j
   match j with
   | 0 => exact h4 0 (Or.inl (by omega))
   | 1 => exact h3 0 (by omega)
   | 2 => exact h3 1 (by omega)
   | 3 => exact h3 2 (by omega)
   | 4 => exact h3 3 (by omega)
   | 5 => exact h3 4 (by omega)
   | 6 => exact h3 5 (by omega)
   | 7 => exact h3 6 (by omega)
   | 8 => exact h3 7 (by omega)
   | 9 => exact h4 9 (Or.inr (by omega))
   | 10 => exact h4 10 (Or.inr (by omega))
   | j + 11 =>
     have : (hC tb v n)[j + 11]? = none := by simp [hC]
     rw [h4 _ (Or.inr (by omega)), this]; simp
end
def HashAt (w : World) (p tb : Nat) (all : List Int) (v : Value) : Prop :=
 HBlk w p tb (stH all) v all.length ∧ w.ownsRow 0 5 1 v (stR all).length ((stR all).map (Value.int .u8)) ∧ v.ownBlock ≠ some p ∧ v.ownBlock ≠ some tb ∧ p ≠ tb ∧ InB all
def fpH (p tb : Nat) (v : Value) (k : Nat) : Prop := k = tb ∨ k = p ∨ v.ownBlock = some k
theorem HashAt.lt {w : World} {p tb : Nat} {all : List Int} {v : Value} (h : HashAt w p tb all v) : p < w.heap.size ∧ ∀ g, v.ownBlock = some g → g < w.heap.size := ⟨h.1.lt, fun g hg => (h.2.1.lt g hg).2⟩
theorem HashAt.keep {w w' : World} {p tb : Nat} {all : List Int} {v : Value} {S : Nat → Prop} (h : HashAt w p tb all v) (hk : Keeps S w w') (hp : ¬ S p) (hv : ∀ g, v.ownBlock = some g → ¬ S g) : HashAt w' p tb all v :=
 ⟨h.1.same (hk.block p h.lt.1 hp), ownsRow_same h.2.1 (fun g hg => hk.block g (h.lt.2 g hg) (hv g hg)), h.2.2⟩
set_option maxRecDepth 100000 in
set_option maxHeartbeats 1000000 in
theorem new_any (tb : Nat) (w : World) (ht : TabOk w tb) :
 Calls Tryz.prog 118 #[.pointer (some ⟨tb, 0, none⟩)] w fun e w' => e = .returned (.pointer (some ⟨w.heap.size, 0, none⟩)) ∧ TabOk w' tb ∧ HashAt w' w.heap.size tb [] (.slice none 0 0) ∧ Keeps (fun i => i = tb) w w' := by
 have HT := Lib.hid ht
 have HLT := Lib.hid ht.lt
 obtain ⟨w1, hw1⟩ : ∃ w1, w1 = w.alloc (.cells (hC tb (.slice none 0 0) 0) 193) := ⟨_, rfl⟩
 have HB1 : Hid (Below w.heap.size w w1) := Lib.hid (by rw [hw1]; exact (Below.refl _ _).alloc (Nat.le_refl _) _)
 have HA1 : Hid (HBlk w1 w.heap.size tb [0, 0, 0, 0, 0, 0, 0, 0] (.slice none 0 0) 0) := Lib.hid (by
  rw [hw1]
  exact ⟨0, 0, 0, 0, 0, 0, 0, 0, rfl, heap_alloc_new w _⟩)
 have HT1 := Lib.hid (ht.below HB1.out)
 unfold hC at hw1
 have HW1 := Lib.hid hw1
 clear ht hw1
 go_enter Tryz.func118, Tryz.ntmps118
 go_wp2_with fail
 rw [← HW1.out]
 go_loopw [8] (fun i wr => ∃ k : Nat, k ≤ 8 ∧ i = .int .i64 k ∧ ArrF wr w.heap.size 193 8 1 (fun j => if j < k then hAt j else 0) (hC tb (.slice none 0 0) 0) ∧ TabOk wr tb ∧ Keeps (fun i => i = tb ∨ i = w.heap.size) w1 wr) (fun i _ => 8 - (intOf i).toNat)
 case atStart => exact ⟨0, Nat.zero_le _, rfl, HA1.out.arr.to (fun j hj => by
  rw [if_neg (by omega)]
  match j, hj with
  | 0, _ => rfl
  | 1, _ => rfl
  | 2, _ => rfl
  | 3, _ => rfl
  | 4, _ => rfl
  | 5, _ => rfl
  | 6, _ => rfl
  | 7, _ => rfl), HT1.out, Keeps.refl _ _⟩
 case round =>
  obtain ⟨k, hk, rfl, ha, ht, hkp⟩ := hrel
  have HA := Lib.hid ha
  have HTR := Lib.hid ht
  have HKP := Lib.hid hkp
  clear ha ht hkp
  by_cases hlt : k < 8
  · have j0 : (0 : Int) ≤ (k : Int) := by omega
    have j1 : (k : Int) < 8 := by omega
    have HST := Lib.hid (fun wx (hx : TabOk wx tb) => start_any tb k wx hx)
    have HHB := Lib.hid (show hB (k : Int) = hAt k by unfold hB; rw [if_pos (by omega)]; rfl)
    rw [HHB.out] at HST
    go_wp2_with fail
    refine wp_region_held_drew (S := fun w' => TabOk w' tb ∧ (∃ f : Nat → Int, (∀ j, j < 8 → j ≠ k → f j = if j < k then hAt j else 0) ∧ ArrF w' w.heap.size 193 8 1 f (hC tb (.slice none 0 0) 0)) ∧ Keeps (fun i => i = tb ∨ i = w.heap.size) wr w') (by kernel_rfl) ?_ (fun hHeld => ?_)
    · exact ⟨HTR.out.same rfl, ⟨_, fun _ _ _ => rfl, HA.out.same rfl⟩, (Keeps.refl _ _).drew⟩
    refine tk 0 11 ?_
    simp only [lz]
    refine tk 1 12 ?_
    simp only [lz]
    refine tk 2 13 ?_
    simp only [lz]
    refine tk 3 14 ?_
    simp only [lz]
    refine tk 5 16 ?_
    simp only [lz]
    refine tk 6 17 ?_
    simp only [lz]
    refine wpAnyH_ready (rs := [4]) (by kernel_rfl) (by simp) ?_
    refine AllReadyH.cons rfl (fun K hK => ?_) AllReadyH.nil
    go_simp
    go_at_call 128
    refine (HST.out _ hHeld.1).mono ?_
    rintro e w7 ⟨rfl, ht7, hk7⟩
    obtain ⟨_, ⟨f, hf, ha⟩, hkk⟩ := hHeld
    have HT7 := Lib.hid (show TabOk w7 tb from Or.inr ht7)
    have HF7 := Lib.hid hf
    have HA7 := Lib.hid (ha.same (hk7.block _ ha.lt (by have := HLT.out; omega)))
    have HK7 := Lib.hid (hkk.trans hk7 (fun i h => Or.inl (Or.inl h)))
    clear ht7 hk7 hf ha hkk
    dsimp only
    go_wp2_with fail
    refine hK.out _ _ ?_ (fun hHeld => ?_)
    · exact ⟨HT7.out, ⟨f, HF7.out, HA7.out⟩, HK7.out⟩
    clear hK K
    try simp only [Act.put, lg]
    try simp only [lz]
    refine tk 7 18 ?_
    simp only [lz]
    obtain ⟨c7, f7⟩ := HA7.out.cell k hlt
    have HA8 := Lib.hid (HA7.out.set k hlt (hAt k))
    have HK8 := Lib.hid (HK7.out.trans ((Keeps.refl (fun i => i = w.heap.size) w7).setCell (p := ⟨w.heap.size, 1 + k, none⟩) (Or.inl rfl) (.int .u32 (hAt k))) (fun i hi => Or.inl (Or.inr hi)))
    have HT8 := Lib.hid (HT7.out.same (w' := w7.setCell ⟨w.heap.size, 1 + k, none⟩ (.int .u32 (hAt k))) (Below.heap_setCell _ _ _ _ (by have := HLT.out; dsimp only; omega)))
    refine wpAnyH_ready (rs := [8]) (by kernel_rfl) (by simp) ?_
    refine AllReadyH.cons rfl (fun K hK => ?_) AllReadyH.nil
    go_simp
    go_wp2_with fail
    refine hK.out _ _ ?_ (fun hHeld => ?_)
    · exact ⟨HT8.out, ⟨_, fun j hj hn => (by rw [if_neg hn]; exact HF7.out j hj hn), HA8.out⟩, HK8.out⟩
    clear hK K
    try simp only [Act.put, lg]
    try simp only [lz]
    refine wpAnyH_done (by kernel_rfl) ?_ _
    go_wp2_with fail
    go_roundw
    case rel =>
     refine ⟨k + 1, by omega, by go_num, HA8.out.to (fun j hj => ?_), HT8.out, HKP.out.trans HK8.out (fun i h => Or.inl h)⟩
     by_cases e : j = k
     · subst e
       rw [if_pos rfl, if_pos (by omega)]
     · rw [if_neg e, HF7.out j hj e]
       by_cases e2 : j < k
       · rw [if_pos e2, if_pos (by omega)]
       · rw [if_neg e2, if_neg (by omega)]
    case measure => simp [intOf]; omega
  · obtain rfl : k = 8 := by omega
    have HFI : Hid (HashAt wr w.heap.size tb [] (.slice none 0 0)) := Lib.hid (by
     refine ⟨HBlk.of (HA.out.to (fun j hj => ?_)) (stH_len []), World.ownsRow_nil _ _ _ _, by simp [Value.ownBlock], by simp [Value.ownBlock], by have := HLT.out; omega, fun z hz => by cases hz⟩
     rw [if_pos hj]
     match j, hj with
     | 0, _ => rfl
     | 1, _ => rfl
     | 2, _ => rfl
     | 3, _ => rfl
     | 4, _ => rfl
     | 5, _ => rfl
     | 6, _ => rfl
     | 7, _ => rfl)
    have HKF : Hid (Keeps (fun i => i = tb) w wr) := Lib.hid ((Keeps.of_below (S := fun i => i = tb) HB1.out).trans HKP.out (fun i h => by
     rcases h with h | h
     · exact Or.inl h
     · exact Or.inr (by omega)))
    go_wp2
    go_ret
    exact ⟨rfl, HTR.out, HFI.out, HKF.out⟩
def restLen (p : Nat) (w : World) : Nat := match w.cell? ⟨p, 9, none⟩ with
 | some (.slice _ n _) => n
 | _ => 0
theorem absF_at (hs row : List Int) (k : Nat) (h1 : 64 * k ≤ row.length) (h2 : row.length - 64 * k < 64) : absF hs row = absN k hs row := by
 unfold absF
 rw [show row.length / 64 = k by omega]
theorem st_at (all bs : List Int) (k : Nat) (h1 : 64 * k ≤ (stR all ++ bs).length) (h2 : (stR all ++ bs).length - 64 * k < 64) : stH (all ++ bs) = (absN k (stH all) (stR all ++ bs)).1 ∧ stR (all ++ bs) = (stR all ++ bs).drop (64 * k) := by
 have h := st_app all bs
 rw [absF_at _ _ k h1 h2] at h
 have h3 := absN_two k (stH all) (stR all ++ bs)
 rw [Prod.ext_iff] at h
 exact ⟨h.1, h.2.trans h3⟩
set_option maxRecDepth 100000 in
set_option maxHeartbeats 2000000 in
theorem write_any (p tb : Nat) (v : Value) (all : List Int) (w : World) (ht : TabOk w tb) (h : HashAt w p tb all v) (ao : Option Addr) (bs : List Int) (n cap : Nat) (hn : bs.length = n) (hz : IntsAt .u8 w ao bs) (hB : InB bs) (hp : bs = [] ∨ ∀ a, ao = some a → a.block ≠ p) (hlen : all.length + n ≤ 1099511627776) :
 Calls Tryz.prog 119 #[.pointer (some ⟨p, 0, none⟩), .slice ao n cap] w fun e w' => e = .returned (.tuple #[]) ∧ ∃ v', TabOk w' tb ∧ HashAt w' p tb (all ++ bs) v' ∧ Keeps (fpH p tb v) w w' ∧ (∀ g, v'.ownBlock = some g → w.heap.size ≤ g) := by
 have HTB := Lib.hid ht
 have HH := Lib.hid h
 have HN := Lib.hid hn
 have HZ := Lib.hid hz
 have HBB := Lib.hid hB
 have HL := Lib.hid hlen
 obtain ⟨hblk, hown, hvp, hvt, hpt, hib⟩ := h
 obtain ⟨vo, vc, rfl⟩ : ∃ vo vc, v = .slice vo (stR all).length vc := by
  rcases hown.2 with ⟨hv, hn⟩ | ⟨g, cap, cur, hv, _⟩
  · exact ⟨none, 0, by rw [hv, hn]⟩
  · exact ⟨_, cap, hv⟩
 have HRL := Lib.hid (stR_len all)
 have HRI : Hid (InB (stR all)) := Lib.hid (by rw [stR_eq]; exact inB_drop hib _)
 obtain ⟨c0, c9, c10, f9, f10⟩ := hblk.cells
 have HPT := Lib.hid hpt
 have HHS := Lib.hid (fun bs k h1 h2 => st_at all bs k h1 h2)
 have H8 := Lib.hid (stH_len all)
 have H8I := Lib.hid (stH_in all)
 obtain ⟨w1, hw1⟩ : ∃ w1, w1 = w.setCell ⟨p, 10, none⟩ (.int .u64 ((all.length : Int) + (n : Int))) := ⟨_, rfl⟩
 have HK1 : Hid (Keeps (fun i => i = p) w w1) := Lib.hid (by rw [hw1]; exact (Keeps.refl (fun i => i = p) w).setCell (p := ⟨p, 10, none⟩) (Or.inl rfl) _)
 have HB1 : Hid (HBlk w1 p tb (stH all) (.slice vo (stR all).length vc) ((all.length : Int) + (n : Int))) := Lib.hid (by rw [hw1]; exact hblk.setN _)
 have HO1 : Hid (w1.ownsRow 0 5 1 (.slice vo (stR all).length vc) (stR all).length ((stR all).map (Value.int .u8))) := Lib.hid (ownsRow_same hown (fun g hg => HK1.out.block g (hown.lt g hg).2 (by intro e; exact hvp (by rw [hg, e]))))
 have HT1 := Lib.hid (ht.same (HK1.out.block tb ht.lt (by omega)))
 have HZ1 : Hid (IntsAt .u8 w1 ao bs) := Lib.hid (hp.elim (fun h => Or.inl h) (fun hp => hz.same (fun a ha hl => HK1.out.block a.block hl (hp a ha))))
 have HW1 := Lib.hid hw1
 have HVP := Lib.hid hvp
 have HVT := Lib.hid hvt
 have HVL := Lib.hid hown.lt
 obtain ⟨i0, hi, hz0, hz1, hz2⟩ := info_parts Try_infoU8
 have e1 : IntKind.u64.wrap ((all.length : Int) + (n : Int)) = (all.length : Int) + (n : Int) := by rw [IntKind.wrap_u64]; omega
 have e2 : IntKind.u64.wrap (n : Int) = (n : Int) := by rw [IntKind.wrap_u64]; omega
 generalize hAL : (all.length : Int) = AL at *
 have HAL := Lib.hid hAL
 generalize hRL : (stR all).length = RL at *
 have HRLE := Lib.hid hRL
 generalize hHS : stH all = HS at *
 generalize hRS : stR all = RS at *
 clear ht hn hz hB hlen hblk hown hvp hvt hpt hib hp hw1 hAL hRL hHS hRS
 go_enter Tryz.func119, Tryz.ntmps119
 go_upto_region 1 with fail
 rw [← HW1.out]
 obtain ⟨d0, d9, d10, g9, g10⟩ := HB1.out.cells
 have HDS := Lib.hid (⟨d0, d9, d10, g9, g10⟩ : _ ∧ _ ∧ _ ∧ _ ∧ _)
 clear c0 c9 c10 f9 f10 d0 d10
 go_wp2_with (at_builtin; refine wpList_append_any rfl _ _ 62 rfl 5 i0 (.int .u8 0) 1 1 Tryz.underlying62 hi hz0 hz1 hz2 rfl (by decide) (.slice vo RL vc) RL (RS.map (Value.int .u8)) rfl HO1.out ao n cap (bs.map (Value.int .u8)) rfl ?c1 ?c2 ?c3 (ints_one _ _) ?c5 ?c6 ?_)
 case c1 => simp; exact HN.out
 case c2 => intro e; have := HZ1.out; rw [e] at this; have := ints_none this; have := HN.out; omega
 case c3 => exact src_ints HZ1.out
 case c5 => have := HRL.out; have := HL.out; unfold maxLen; omega
 case c6 => have := HRL.out; have := HL.out; omega
 intro ao' cap' w2 hown hgrow hat hnn
 have HB2 := Lib.hid (HB1.out.same (hgrow.block p HB1.out.lt (fun e => HVP.out e.symm)))
 obtain ⟨q0, q9, q10, r9, r10⟩ := HB2.out.cells
 have HT2 := Lib.hid (HT1.out.same (hgrow.block tb HT1.out.lt (fun e => HVT.out e.symm)))
 have HK2 : Hid (Keeps (fpH p tb (.slice vo RL vc)) w w2) := Lib.hid ((HK1.out.mono (fun i _ h => Or.inr (Or.inl h))).grown hgrow (fun k hk => Or.inl (Or.inr (Or.inr hk))))
 have HS1 := Lib.hid HK1.out.size
 have HAT : Hid (∀ g, (Value.slice ao' (RL + n) cap').ownBlock = some g → g ≠ p ∧ g ≠ tb) := Lib.hid (by
  intro g hg
  have hpl := HB1.out.lt
  have htl := HT1.out.lt
  rcases hat g hg with h | h
  · exact ⟨fun e => HVP.out (by rw [h, e]), fun e => HVT.out (by rw [h, e])⟩
  · exact ⟨by omega, by omega⟩)
 have hown' : w2.ownsRow 0 5 1 (.slice ao' (RL + n) cap') (RL + n) ((RS ++ bs).map (Value.int .u8)) := by simpa using hown
 obtain ⟨hrl, hra, hrc, hrm⟩ := owns_at hown'
 obtain ⟨ROW, hrow⟩ : ∃ r, r = RS ++ bs := ⟨_, rfl⟩
 have HROW := Lib.hid hrow
 rw [← hrow] at hrl hra
 have HRA := Lib.hid hra
 have HRLN := Lib.hid hrl
 have HRB : Hid (InB ROW) := Lib.hid (by rw [hrow]; exact inB_app HRI.out HBB.out)
 obtain ⟨w3, hw3⟩ : ∃ w3, w3 = w2.setCell ⟨p, 9, none⟩ (.slice ao' (RL + n) cap') := ⟨_, rfl⟩
 have HW3 := Lib.hid hw3
 have HB3 : Hid (HBlk w3 p tb HS (.slice ao' (RL + n) cap') (AL + n)) := Lib.hid (by rw [hw3]; exact HB2.out.setV _)
 have HK3' : Hid (Keeps (fun i => i = p) w2 w3) := Lib.hid (by rw [hw3]; exact (Keeps.refl (fun i => i = p) w2).setCell (p := ⟨p, 9, none⟩) (Or.inl rfl) _)
 have HK3 : Hid (Keeps (fpH p tb (.slice vo RL vc)) w w3) := Lib.hid (HK2.out.trans HK3'.out (fun i h => Or.inl (Or.inr (Or.inl h))))
 have HT3 := Lib.hid (HT2.out.same (HK3'.out.block tb HT2.out.lt (by have := HPT.out; omega)))
 have HRA3 : Hid (IntsAt .u8 w3 ao' ROW) := Lib.hid (HRA.out.same (fun a ha hl => HK3'.out.block a.block hl (HAT.out a.block (by rw [ha]; rfl)).1))
 clear hown hgrow hat hnn hown' hrl hra hrow hw3
 go_wp2_with fail
 rw [← HW3.out]
 clear q0 q9 q10 r9 r10 d9 g9 g10
 go_loopw [] (fun wr => ∃ (k m : Nat) (ak : Option Addr) (ck : Nat), m + 64 * k = RL + n ∧ HBlk wr p tb (absN k HS ROW).1 (.slice ak m ck) (AL + n) ∧ IntsAt .u8 wr ak (ROW.drop (64 * k)) ∧ (∀ a, ak = some a → a.block ≠ p ∧ a.block ≠ tb) ∧ m ≤ ck ∧ ck ≤ maxLen ∧ TabOk wr tb ∧ Keeps (fpH p tb (.slice vo RL vc)) w wr) (fun wr => restLen p wr)
 case atStart => exact ⟨0, RL + n, ao', cap', rfl, HB3.out, HRA3.out, fun a ha => HAT.out a.block (by rw [ha]; rfl), hrc, hrm, HT3.out, HK3.out⟩
 case round =>
  obtain ⟨k, m, ak, ck, hm, hb, hra, hak, hck, hcm, ht, hkp⟩ := hrel
  have HM := Lib.hid hm
  have HB4 := Lib.hid hb
  have HR4 := Lib.hid hra
  have HA4 := Lib.hid hak
  have HCK := Lib.hid hck
  have HCM := Lib.hid hcm
  have HT4 := Lib.hid ht
  have HK4 := Lib.hid hkp
  have HDL : Hid ((ROW.drop (64 * k)).length = m) := Lib.hid (by have := HRLN.out; simp; omega)
  obtain ⟨q0, q9, q10, r9, r10⟩ := hb.cells
  clear hm hb hra hak hck hcm ht hkp q10 r10
  by_cases h64 : 64 ≤ m
  · have j1 : (64 : Int) ≤ (m : Int) := by omega
    have j2 : (64 : Int) ≤ (ck : Int) := by have := HCK.out; omega
    obtain ⟨b, off, rfl⟩ : ∃ b off, ak = some ⟨b, off, none⟩ := by
     rcases HR4.out with h | ⟨b, off, h, _⟩
     · have := HDL.out; rw [h] at this; simp at this; omega
     · exact ⟨b, off, h⟩
    have HLN := Lib.hid (absN_len k HS ROW H8.out)
    have HIN := Lib.hid (absN_in k HS ROW H8I.out)
    have HSC := Lib.hid (absN_succ k HS ROW)
    have HMX := Lib.hid (mix_any tb p 1 193 (some ⟨b, off, none⟩) ((ROW.drop (64 * k)).take 64) ck (absN k HS ROW).1 wr.drew (HT4.out.same rfl) HLN.out HPT.out _ (HB4.out.arr.same rfl) HIN.out (by have := HDL.out; simp [List.length_take] at *; omega) ((HR4.out.same (w' := wr.drew) (fun _ _ _ => rfl)).take 64) (inB_take (inB_drop HRB.out _) _) (by omega))
    go_wp2_with fail
    refine wp_region_held_drew (S := fun w' => w'.cell? ⟨p, 0, none⟩ = some (.pointer (some ⟨tb, 0, none⟩)) ∧ w'.cell? ⟨p, 9, none⟩ = some (.slice (some ⟨b, off, none⟩) m ck)) (by kernel_rfl) ?_ (fun hHeld => ?_)
    · exact ⟨q0, q9⟩
    refine tk 0 29 ?_
    simp only [lz]
    refine tk 1 30 ?_
    simp only [lz]
    refine tk 2 31 ?_
    simp only [lz]
    refine tk 3 32 ?_
    simp only [lz]
    refine tk 4 33 ?_
    simp only [lz]
    refine tk 5 34 ?_
    simp only [lz]
    refine tk 6 35 ?_
    simp only [lz]
    refine tk 7 36 ?_
    simp only [lz]
    refine tk 8 37 ?_
    simp only [lz]
    refine tk 9 38 ?_
    simp only [lz]
    refine tk 10 39 ?_
    simp only [lz]
    refine tk 11 40 ?_
    simp only [lz]
    refine wpAnyH_ready (rs := [12]) (by kernel_rfl) (by simp) ?_
    refine AllReadyH.cons rfl (fun K hK => ?_) AllReadyH.nil
    go_simp
    go_at_call 129
    refine HMX.out.mono ?_
    rintro e w7 ⟨rfl, ht7, ha7, hk7⟩
    have HT7 := Lib.hid ht7
    have HB7 : Hid (HBlk w7 p tb (absN (k + 1) HS ROW).1 (.slice (some ⟨b, off, none⟩) m ck) (AL + n)) := Lib.hid (HBlk.of (by rw [HSC.out]; exact ha7) (absN_len _ _ _ H8.out))
    have HK7 : Hid (Keeps (fun i => i = tb ∨ i = p) wr w7) := Lib.hid (((Keeps.refl (fun i => i = tb ∨ i = p) wr).drew).trans hk7 (fun i h => Or.inl h))
    clear ht7 ha7 hk7
    dsimp only
    go_wp2_with fail
    refine hK.out _ _ ?_ (fun hHeld => ?_)
    · exact ⟨HB7.out.cells.1, HB7.out.cells.2.1⟩
    clear hK K
    try simp only [Act.put, lg]
    try simp only [lz]
    refine wpAnyH_done (by kernel_rfl) ?_ _
    obtain ⟨_, q9, _, r9, _⟩ := HB7.out.cells
    clear q0 hHeld
    go_wp2_with fail
    obtain ⟨A, hA⟩ : ∃ A : Option Addr, A = if ck = 64 then some ⟨b, off, none⟩ else some ⟨b, off + 64, none⟩ := ⟨_, rfl⟩
    rw [← hA]
    have HB8 := Lib.hid (HB7.out.setV (.slice A (m - 64) (ck - 64)))
    have HK8 : Hid (Keeps (fun i => i = p) w7 (w7.setCell ⟨p, 9, none⟩ (.slice A (m - 64) (ck - 64)))) := Lib.hid ((Keeps.refl (fun i => i = p) w7).setCell (p := ⟨p, 9, none⟩) (Or.inl rfl) _)
    have hab : b ≠ p ∧ b ≠ tb := HA4.out _ rfl
    have hAB : ∀ a, A = some a → a.block = b := by
     intro a ha
     rw [hA] at ha
     split at ha
     · cases ha; rfl
     · cases ha; rfl
    have hbl : ROW.drop (64 * k) ≠ [] → b < wr.heap.size := fun h => HR4.out.lt h
    have hbl2 : b < wr.heap.size := hbl (by intro e; have := HDL.out; rw [e] at this; simp at this; omega)
    have h7 := HK7.out
    have hra8 : IntsAt .u8 (w7.setCell ⟨p, 9, none⟩ (.slice A (m - 64) (ck - 64))) A (ROW.drop (64 * (k + 1))) := by
     have e0 : ROW.drop (64 * (k + 1)) = (ROW.drop (64 * k)).drop 64 := by rw [List.drop_drop]; congr 1
     rw [e0]
     have h1 := (HR4.out.drop 64).same (w' := w7.setCell ⟨p, 9, none⟩ (.slice A (m - 64) (ck - 64))) (fun a ha hl => by
      cases ha
      exact (HK8.out.block b (by have := h7.size; exact Nat.lt_of_lt_of_le hbl2 this) hab.1).trans (h7.block b hbl2 (by rintro (h | h); exact hab.2 h; exact hab.1 h)))
     by_cases h64 : ck = 64
     · refine Or.inl (List.eq_nil_of_length_eq_zero ?_)
       have := HDL.out
       have := HCK.out
       simp only [List.length_drop] at *
       omega
     · have e : A = some ⟨b, off + 64, none⟩ := by rw [hA, if_neg h64]
       rw [← e] at h1; exact h1
    have hcm := HCM.out
    have hcmk := HCK.out
    have hm := HM.out
    refine ⟨⟨k + 1, m - 64, A, ck - 64, by omega, HB8.out, hra8, fun a ha => by rw [hAB a ha]; exact hab, by omega, by omega, HT7.out.same (HK8.out.block tb HT7.out.lt (by have := HPT.out; omega)), (HK4.out.trans h7 (fun i h => Or.inl (h.imp id Or.inl))).trans HK8.out (fun i h => Or.inl (Or.inr (Or.inl h)))⟩, ?_⟩
    unfold restLen
    rw [HB8.out.cells.2.1, HB4.out.cells.2.1]
    dsimp only
    omega
  · have j1 : ¬ (64 : Int) ≤ (m : Int) := by omega
    have HML : Hid (m ≤ 140737488355328) := Lib.hid (by omega)
    have HST := Lib.hid (HHS.out bs k (by have := HM.out; have := HRLN.out; rw [← HROW.out]; omega) (by have := HM.out; have := HRLN.out; rw [← HROW.out]; omega))
    rw [← HROW.out] at HST
    generalize ROW.drop (64 * k) = D at *
    have HCL := Lib.hid (clone_u8 ak D m ck wr HDL.out HR4.out HML.out)
    go_wp2_with fail
    refine HCL.out.mono ?_
    rintro e w8 ⟨ao8, cap8, rfl, hown8, hbel8, hfr8⟩
    have HO8 := Lib.hid hown8
    have HF8 := Lib.hid hfr8
    have HL8 := Lib.hid hbel8
    have HB8 := Lib.hid (HB4.out.same (hbel8.block p HB4.out.lt))
    have HT8 := Lib.hid (HT4.out.below hbel8)
    obtain ⟨_, q9', _, r9', _⟩ := HB8.out.cells
    clear hown8 hbel8 hfr8 q9 r9 q0
    go_wp2_with fail
    generalize hM8 : D.length = M8 at *
    have HK9 : Hid (Keeps (fun i => i = p) w8 (w8.setCell ⟨p, 9, none⟩ (.slice ao8 M8 cap8))) := Lib.hid ((Keeps.refl (fun i => i = p) w8).setCell (p := ⟨p, 9, none⟩) (Or.inl rfl) _)
    go_end0
    refine ⟨rfl, .slice ao8 M8 cap8, HT8.out.same (HK9.out.block tb HT8.out.lt (by have := HPT.out; omega)), ⟨?_, ?_, ?_, ?_, HPT.out, inB_app HH.out.2.2.2.2.2 HBB.out⟩, (HK4.out.trans (Keeps.of_below (S := fun _ => False) HL8.out) (fun _ h => h.elim)).trans HK9.out (fun i h => Or.inl (Or.inr (Or.inl h))), fun g hg => Nat.le_trans HK4.out.size (HF8.out g hg)⟩
    · rw [HST.out.1, show (((all ++ bs).length : Nat) : Int) = AL + n by have := HAL.out; have := HN.out; simp; omega]
      exact HB8.out.setV _
    · rw [HST.out.2]
      have hh := HO8.out
      rw [hM8]
      exact ownsRow_same hh (fun g hg => HK9.out.block g (hh.lt g hg).2 (by have := HF8.out g hg; have := HB4.out.lt; omega))
    · intro e
      have := HF8.out p e
      have := HB4.out.lt
      omega
    · intro e
      have := HF8.out tb e
      have := HT4.out.lt
      omega
theorem bytesBE_inB (n : Int) : ∀ k, InB (bytesBE n k)
 | 0 => fun z hz => by cases hz
 | k + 1 => fun z hz => by
   rcases List.mem_cons.1 hz with rfl | h
   · omega
   · exact bytesBE_inB n k z h
def GrowPost (w : World) (v : Value) (xs : List Int) (e : Ending) (w' : World) : Prop :=
 ∃ ao cap, e = .returned (.slice ao xs.length cap) ∧ w'.ownsRow 0 5 1 (.slice ao xs.length cap) xs.length (xs.map (Value.int .u8)) ∧ Keeps (fun i => v.ownBlock = some i) w w' ∧ (∀ g, (Value.slice ao xs.length cap).ownBlock = some g → v.ownBlock = some g ∨ w.heap.size ≤ g)
set_option maxRecDepth 100000 in
set_option maxHeartbeats 1000000 in
theorem lays_any (ao : Option Addr) (zs : List Int) (n0 cap : Nat) (n : Int) (size : Nat) (w : World) (hn : zs.length = n0) (hn1 : 0 ≤ n) (hn2 : n < 18446744073709551616) (hs : size ≤ 8) (hown : w.ownsRow 0 5 1 (.slice ao n0 cap) n0 (zs.map (Value.int .u8))) (hlen : n0 + 8 ≤ 140737488355328) :
 Calls Tryz.prog 130 #[.slice ao n0 cap, .int .u64 n, .int .i64 size] w fun e w' => GrowPost w (.slice ao n0 cap) (zs ++ bytesBE n size) e w' := by
 have HN := Lib.hid hn
 have HO := Lib.hid hown
 have HL := Lib.hid hlen
 have HS := Lib.hid hs
 obtain ⟨i0, hi, hz0, hz1, hz2⟩ := info_parts Try_infoU8
 have HSZ := Lib.hid (show wrap64 ((size : Int) - 1) = (size : Int) - 1 by unfold wrap64; omega)
 clear hn hown hlen hs
 go_enter Tryz.func130, Tryz.ntmps130
 go_wp2_with fail
 go_loopw [0, 7] (fun v k wr => ∃ (j : Nat) (cur : List Int) (a1 : Option Addr) (c1 : Nat), j ≤ size ∧ k = .int .i64 ((j : Int) - 1) ∧ v = .slice a1 cur.length c1 ∧ cur ++ bytesBE n j = zs ++ bytesBE n size ∧ wr.ownsRow 0 5 1 (.slice a1 cur.length c1) cur.length (cur.map (Value.int .u8)) ∧ Keeps (fun i => (Value.slice ao n0 cap).ownBlock = some i) w wr ∧ (∀ g, (Value.slice a1 cur.length c1).ownBlock = some g → (Value.slice ao n0 cap).ownBlock = some g ∨ w.heap.size ≤ g)) (fun _ k _ => (intOf k + 1).toNat)
 case atStart => exact ⟨size, zs, ao, cap, Nat.le_refl _, by rw [HSZ.out], by rw [HN.out], rfl, by rw [HN.out]; exact HO.out, Keeps.refl _ _, fun g hg => Or.inl (by rw [HN.out] at hg; exact hg)⟩
 case round =>
  obtain ⟨j, cur, a1, c1, hj, rfl, rfl, he, ho, hk, hf⟩ := hrel
  have HE := Lib.hid he
  have HOR := Lib.hid ho
  have HKR := Lib.hid hk
  have HFR := Lib.hid hf
  have HJ := Lib.hid hj
  clear he ho hk hf hj
  cases j with
  | zero =>
    have HE0 : Hid (cur = zs ++ bytesBE n size) := Lib.hid (by have := HE.out; simpa [bytesBE] using this)
    go_wp2
    go_ret
    obtain rfl := HE0.out
    exact ⟨a1, c1, rfl, HOR.out, HKR.out, HFR.out⟩
  | succ j =>
    have j8 : (j : Int) < 8 := by have := HJ.out; have := HS.out; omega
    have hw : wrap64 (8 * (j : Int)) = 8 * (j : Int) := by unfold wrap64; omega
    have hs0 : (0 : Int) ≤ 8 * (j : Int) := by omega
    have hs1 : (8 : Int) * (j : Int) ≤ 64 := by omega
    have HP : Hid ((2 : Int) ^ ((8 * (j : Int)).toNat) = 256 ^ j) := Lib.hid (by
     rw [show (8 * (j : Int)).toNat = 8 * j by omega, show (256 : Int) = 2 ^ 8 from by decide, ← Int.pow_mul])
    have HCL : Hid (cur.length + 1 ≤ n0 + size) := Lib.hid (by
     have h1 := congrArg List.length HE.out
     simp only [List.length_append, bytesBE_len, HN.out] at h1
     omega)
    have HE1 : Hid ((cur ++ [n / 256 ^ j % 256]) ++ bytesBE n j = zs ++ bytesBE n size) := Lib.hid (by
     have h1 := HE.out
     rw [List.append_assoc]; exact h1)
    go_wp2_with (at_builtin; refine wpList_append_any rfl _ _ 62 rfl 5 i0 (.int .u8 0) 1 1 Tryz.underlying62 hi hz0 hz1 hz2 rfl (by decide) (.slice a1 cur.length c1) cur.length (cur.map (Value.int .u8)) rfl (HOR.out.alloc _) (some ⟨wr.heap.size, 0, none⟩) 1 1 [.int .u8 (n / 2 ^ ((8 * (j : Int)).toNat) % 256)] rfl rfl ?c2 (fun ad had => by cases had; exact cell_one_new _ _ _) (by simp [Value.oneCell']) ?c5 ?c6 ?_)
    case c2 => intro e; cases e
    case c5 => have := HCL.out; have := HL.out; have := HS.out; unfold maxLen; omega
    case c6 => have := HCL.out; have := HL.out; have := HS.out; omega
    intro ao' cap' w2 hown hgrow hat hnn
    rw [HP.out] at hown
    have HO2 : Hid (w2.ownsRow 0 5 1 (.slice ao' (cur.length + 1) cap') (cur.length + 1) ((cur ++ [n / 256 ^ j % 256]).map (Value.int .u8))) := Lib.hid (by simpa using hown)
    have HK2 : Hid (Keeps (fun i => (Value.slice ao n0 cap).ownBlock = some i) w w2) := Lib.hid ((HKR.out.alloc _).grown hgrow (fun k hk => HFR.out k hk))
    have HF2 : Hid (∀ g, (Value.slice ao' (cur.length + 1) cap').ownBlock = some g → (Value.slice ao n0 cap).ownBlock = some g ∨ w.heap.size ≤ g) := Lib.hid (fun g hg => by
     rcases hat g hg with h | h
     · exact HFR.out g h
     · exact Or.inr (by have := HKR.out.size; omega))
    clear hown hgrow hat hnn
    go_wp2
    go_roundw
    case rel =>
     first | exact ⟨j, cur ++ [n / 256 ^ j % 256], ao', cap', by have := HJ.out; omega, by go_num, by simp, HE1.out, by simpa using HO2.out, HK2.out, by simpa using HF2.out⟩ | ((repeat apply Exists.intro); refine ⟨?_, rfl⟩; exact ⟨j, cur ++ [n / 256 ^ j % 256], ao', cap', by have := HJ.out; omega, by go_num, by simp, HE1.out, by simpa using HO2.out, HK2.out, by simpa using HF2.out⟩)
    case measure => simp [intOf]; try omega
section
open Go.Shelf
attribute [local go_sem] Oper.semAt_some
def KpB (Bs Bn : Nat) (W W' : World) : Prop := W'.heap[Bs]? = W.heap[Bs]? ∧ W'.heap[Bn]? = W.heap[Bn]?
theorem KpB.trans {Bs Bn : Nat} {A B C : World} (h : KpB Bs Bn A B) (k : KpB Bs Bn B C) : KpB Bs Bn A C := ⟨k.1.trans h.1, k.2.trans h.2⟩
theorem fin_take (N k : Nat) (h : k < N) : (List.finRange N).take (k + 1) = (List.finRange N).take k ++ [⟨k, h⟩] := by
 rw [List.take_succ_eq_append_getElem (by simp; exact h)]
 simp
def chunkV (g off k : Nat) : Value := .slice (some ⟨g, off + 64 * k, none⟩) 64 64
set_option maxRecDepth 100000 in
set_option maxHeartbeats 2000000 in
theorem chunk1_in (n : Nat) (hn : 1 ≤ n) (l Bs Bn g off cap len N : Nat) (hlen : len = 64 * N) (hcap : len ≤ cap) (hreach : len ≤ 140737488351232) (J Jx : List (Fin N) → World → Prop)
 (hY : ∀ pre x W, J pre W → pre.length < N → YieldAt Fence.wide (n - 1) Tryz.prog l #[chunkV g off x.val] W fun e W' =>
   (e = .returned (.bool true) ∧ J (pre ++ [x]) W' ∧ KpB Bs Bn W W') ∨ (e = .returned (.bool false) ∧ Jx (pre ++ [x]) W'))
 (W : World) (hJd : ∀ s A, J s A → J s A.drew) (hBs : W.cell? ⟨Bs, 0, none⟩ = some (.slice (some ⟨g, off, none⟩) len cap)) (hBn : W.cell? ⟨Bn, 0, none⟩ = some (.int .i64 64)) (h0 : J [] W) :
 CallsIn Fence.wide n Tryz.prog 138 #[.func (.yield l) #[] #[], .pointer (some ⟨Bs, 0, none⟩), .pointer (some ⟨Bn, 0, none⟩)] W fun e W' => (∃ v, e = .returned v) ∧
  ((∃ ys, ys = List.finRange N ∧ J ys W') ∨ (∃ pre, (∃ k, k ≤ N ∧ pre = (List.finRange N).take k) ∧ Jx pre W')) := by
 refine callsIn_of_wp Tryz.func138 rfl trivial ?_ rfl
 simp only [Tryz.ntmps138, List.size_toArray, List.length_cons, List.length_nil, Nat.reduceAdd, Nat.reduceSub, Array.replicate_succ, Array.replicate_zero, List.push_toArray, List.append_toArray, List.nil_append, List.cons_append]
 gi_wp2
 gi_loopw [4] (fun i wr => ∃ k : Nat, k ≤ N ∧ i = .int .i64 ((64 * k : Nat) : Int) ∧ J ((List.finRange N).take k) wr ∧ KpB Bs Bn W wr)
  (fun i _ => len - (intOf i).toNat)
 case atStart => exact ⟨0, Nat.zero_le _, rfl, h0, rfl, rfl⟩
 case round =>
  obtain ⟨k, hk, rfl, hJs, hkb⟩ := hrel
  have c1 : wr.cell? ⟨Bs, 0, none⟩ = some (.slice (some ⟨g, off, none⟩) len cap) := (World.cell?_of_block (a := ⟨Bs, 0, none⟩) hkb.1).trans hBs
  have c2 : wr.cell? ⟨Bn, 0, none⟩ = some (.int .i64 64) := (World.cell?_of_block (a := ⟨Bn, 0, none⟩) hkb.2).trans hBn
  by_cases hlt : k < N
  · have e1 : ((64 * k : Nat) : Int).toNat = 64 * k := by omega
    have b0 : (0 : Int) ≤ ((64 * k : Nat) : Int) := by omega
    have b1 : ((64 * k : Nat) : Int) < (len : Int) := by omega
    have b2 : ((64 * k : Nat) : Int) ≤ (len : Int) := by omega
    have b3 : 64 * k ≤ len := by omega
    have b4 : len ≤ cap := hcap
    have b5 : ¬ cap = 64 * k := by omega
    generalize hK : 64 * k = K at *
    have HLEN := Lib.hid hlen
    have HK := Lib.hid hK
    clear hlen hK
    gi_wp2
    refine wpIn_wide.2 ?_
    refine wp_region_held_drew (S := fun w' => w'.cell? ⟨Bs, 0, none⟩ = some (.slice (some ⟨g, off, none⟩) len cap) ∧ w'.cell? ⟨Bn, 0, none⟩ = some (.int .i64 64)) (by kernel_rfl) ?_ (fun hHeld => ?_)
    · exact ⟨c1, c2⟩
    refine tk 0 13 ?_
    simp only [lz]
    refine tk 1 14 ?_
    simp only [lz]
    refine tk 2 15 ?_
    simp only [lz]
    refine tk 3 16 ?_
    simp only [lz]
    refine tk 4 17 ?_
    simp only [lz]
    refine tk 5 18 ?_
    simp only [lz]
    refine tk 6 5 ?_
    simp only [lz]
    refine wpAnyH_done (by kernel_rfl) ?_ _
    have b6 : ¬ ((len - K : Nat) : Int) < 64 := by have := HLEN.out; have := HK.out; omega
    simp only [if_neg b6]
    obtain ⟨fn, tmps, assign, body, hy, hR⟩ := hY ((List.finRange N).take k) ⟨k, hlt⟩ wr.drew (hJd _ _ hJs) (by simp; omega)
    unfold chunkV at hy
    rw [HK.out] at hy
    have b7 : ((K : Int) + 64) ≤ (cap : Int) := by have := HLEN.out; have := HK.out; omega
    have b8 : K + 64 ≤ cap := by omega
    have e2 : ((K : Int) + 64).toNat = K + 64 := by omega
    have e3 : wrap64 ((K : Int) + 64) = (K : Int) + 64 := by unfold wrap64; omega
    obtain ⟨c1, c2⟩ := hHeld
    have e4 : K + 64 - K = 64 := by omega
    have b9 : (K : Int) ≤ (K : Int) + 64 := by omega
    gi_wp2
    refine hR.mono ?_
    rintro e W3 (⟨rfl, hJ3, hk3⟩ | ⟨rfl, hJx3⟩)
    · have hk4 : KpB Bs Bn W W3 := hkb.trans (KpB.trans ⟨rfl, rfl⟩ hk3)
      have c3 : W3.cell? ⟨Bn, 0, none⟩ = some (.int .i64 64) := (World.cell?_of_block (a := ⟨Bn, 0, none⟩) hk4.2).trans hBn
      gi_wp2
      go_roundw
      case rel => exact ⟨k + 1, by omega, by have := HK.out; first | rfl | (congr 1; omega), by rw [fin_take N k hlt]; exact hJ3, hk4⟩
      case measure => simp [intOf]; omega
    · gi_wp2
      refine bodyPost_ret (results_none rfl _ _ _) rfl ?_
      exact ⟨⟨_, rfl⟩, .inr ⟨_, ⟨k + 1, by omega, (fin_take N k hlt).symm⟩, hJx3⟩⟩
  · obtain rfl : k = N := by omega
    have b1 : ¬ ((64 * k : Nat) : Int) < (len : Int) := by omega
    generalize hK : 64 * k = K at *
    clear hK
    gi_wp2
    go_end0
    exact ⟨⟨_, rfl⟩, .inl (by rw [List.take_of_length_le (by simp)] at hJs; exact hJs)⟩
theorem chunk_stops (n : Nat) (hn : 1 ≤ n) (Bs Bn g off cap len N : Nat) (hlen : len = 64 * N) (hcap : len ≤ cap) (hreach : len ≤ 140737488351232) (w : World) (hBsl : Bs < w.heap.size) (hBnl : Bn < w.heap.size)
 (hBs : w.cell? ⟨Bs, 0, none⟩ = some (.slice (some ⟨g, off, none⟩) len cap)) (hBn : w.cell? ⟨Bn, 0, none⟩ = some (.int .i64 64)) :
 SeqStopsK Fence.wide n Tryz.prog 138 #[.pointer (some ⟨Bs, 0, none⟩), .pointer (some ⟨Bn, 0, none⟩)] (fun k : Fin N => #[chunkV g off k.val]) (KpB Bs Bn) (fun ys => ys = List.finRange N) (fun pre => ∃ k, k ≤ N ∧ pre = (List.finRange N).take k) N w := fun l J Jx W hW hJ _ hY h0 => by
 have c1 := (hW.cell (p := ⟨Bs, 0, none⟩) hBsl).trans hBs
 have c2 := (hW.cell (p := ⟨Bn, 0, none⟩) hBnl).trans hBn
 exact chunk1_in n hn l Bs Bn g off cap len N hlen hcap hreach J Jx hY W (fun s A hs => hJ s A A.drew none hs ⟨rfl, rfl, rfl, Nat.le_refl _, fun _ _ _ => rfl⟩ (fun r e => by cases e)) c1 c2 h0
set_option maxHeartbeats 1000000 in
theorem chunk_any (a : Option Addr) (len cap : Nat) (w : World) :
 Calls Tryz.prog 131 #[.slice a len cap, .int .i64 64] w fun e w' => e = .returned (.func (.func 138) #[] #[.pointer (some ⟨w.heap.size, 0, none⟩), .pointer (some ⟨w.heap.size + 1, 0, none⟩)]) ∧ w' = (w.alloc (.cells #[.slice a len cap] 62)).alloc (.cells #[.int .i64 64] 3) := by
 have hmf : ∀ (fn : Fn) (first cap : Array Value) (w : World), (Instr.makeFunc fn first cap).run Tryz.prog w = .ok (.func fn first cap) w := fun _ _ _ _ => rfl
 go_enter Tryz.func131, Tryz.ntmps131
 go_wp2
 go_ret
 exact ⟨rfl, rfl⟩
end
end Go.Proofs.YtkaciaehlibidaaGreat
