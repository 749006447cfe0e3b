/- Parts of the proof: Pur4 Pur5 Es7 Enc Enc2 Req1 Req2. -/
import Derived.Test.YtkaciaehlibidaaGreatZ01
import Derived.Test.YtkaciaehlibidaaGreatZ04
import Derived.Test.YtkaciaehlibidaaGreatZ07
import Derived.Test.YtkaciaehlibidaaGreatZ08
import Derived.Deep.RegionHeld3
namespace Go.Proofs.YtkaciaehlibidaaGreat
open Go.RowKit
set_option linter.unusedVariables false
set_option linter.unusedSimpArgs false
set_option maxHeartbeats 1000000 in
theorem may1_any (x : Option Addr) (nx cx m B b off n cap c0 : Nat) (a0 : Option Addr) (w : World) (hB : w.cell? ⟨B, 0, none⟩ = some (.slice (some ⟨b, off, none⟩) n cap)) (hc : w.cell? ⟨b, off, none⟩ = some (.slice a0 m c0)) (hn : (0 : Int) < (n : Int)) :
 Calls Tryz.prog 92 #[.slice x nx cx, .pointer (some ⟨B, 0, none⟩)] w fun e w' => e = .returned (.bool ((nx : Int) != (m : Int))) ∧ w = w' := by
 go_enter Tryz.func92, Tryz.ntmps92
 go_wp2
 go_ret
 exact ⟨rfl, rfl⟩
def IdxPost (bad : Bool) (w : World) (e : Ending) (w' : World) : Prop := ∃ r : Int, e = .returned (.int .i64 r) ∧ (0 ≤ r ∧ bad = true ∨ r < 0 ∧ bad = false) ∧ w = w'
def badB (bs : List ISl) (m : Nat) : Bool := bs.any (fun x => (x.zs.length : Int) != (m : Int))
theorem badB_take (bs : List ISl) (m k : Nat) (hk : k < bs.length) (h : badB (bs.take k) m = false) (hb : ((bs[k].zs.length : Int) != (m : Int)) = false) : badB (bs.take (k + 1)) m = false := by
 unfold badB at *
 rw [List.take_succ_eq_append_getElem hk, List.any_append, h]
 simp only [List.any_cons, List.any_nil, Bool.or_false, Bool.false_or]; exact hb
theorem badB_at (bs : List ISl) (m k : Nat) (hk : k < bs.length) (hb : ((bs[k].zs.length : Int) != (m : Int)) = true) : badB bs m = true := by
 unfold badB
 exact List.any_eq_true.2 ⟨bs[k], List.getElem_mem hk, hb⟩
set_option maxHeartbeats 1000000 in
theorem idx_any (ao : Option Addr) (bs : List ISl) (n cap m B b off c0 : Nat) (a0 : Option Addr) (w : World) (hn : bs.length = n) (h : IntsList w (some ⟨b, off, none⟩) bs) (hB : w.cell? ⟨B, 0, none⟩ = some (.slice (some ⟨b, off, none⟩) n cap)) (hc : w.cell? ⟨b, off, none⟩ = some (.slice a0 m c0)) (h0 : (0 : Int) < (n : Int)) (h16 : n ≤ 1000) :
 Calls Tryz.prog 116 #[.slice (some ⟨b, off, none⟩) n cap, .func (Fn.func 92) #[] #[.pointer (some ⟨B, 0, none⟩)]] w (IdxPost (badB bs m) w) := by
 have HB := Lib.hid h
 have HN := Lib.hid hn
 have HC := Lib.hid (fun (x : Option Addr) (nx cx : Nat) => may1_any x nx cx m B b off n cap c0 a0 w hB hc h0)
 clear hn h hB hc
 go_enter Tryz.func116, Tryz.ntmps116
 go_wp2_with fail
 go_loop [8] (fun i => ∃ k : Nat, k ≤ n ∧ i = .int .i64 k ∧ badB (bs.take k) m = false) (fun i => n + 1 - (intOf i + 1).toNat)
 case atStart => exact ⟨0, Nat.zero_le _, rfl, rfl⟩
 case round =>
  obtain ⟨k, hk, rfl, hbad⟩ := hrel
  by_cases hlt : k < n
  · have hkb : k < bs.length := by rw [HN.out]; exact hlt
    obtain ⟨b', off', he, hcell⟩ := il_cell HB.out k hkb
    simp only [Option.some.injEq, Addr.mk.injEq, and_true] at he
    obtain ⟨rfl, rfl⟩ := he
    have HT := Lib.hid (badB_take bs m k hkb hbad)
    have HA := Lib.hid (badB_at bs m k hkb)
    clear hbad
    generalize bs[k] = x at *
    cases hq : ((x.zs.length : Int) != (m : Int))
    · have HQ := Lib.hid hq
      clear hq
      go_wp2_with (go_at_call 92; refine (HC.out _ _ _).mono ?_; rintro e w' ⟨rfl, rfl⟩; rw [HQ.out])
      go_round
      case rel => exact ⟨k + 1, by omega, by go_num, HT.out HQ.out⟩
      case measure => simp [intOf]; omega
    · have HQ := Lib.hid hq
      clear hq
      go_wp2_with (go_at_call 92; refine (HC.out _ _ _).mono ?_; rintro e w' ⟨rfl, rfl⟩; rw [HQ.out])
      go_ret
      exact ⟨k, rfl, Or.inl ⟨by omega, HA.out HQ.out⟩, rfl⟩
  · obtain rfl : k = n := by omega
    have HX := Lib.hid (show badB bs m = false by rw [List.take_of_length_le (by rw [HN.out]; exact Nat.le_refl _)] at hbad; exact hbad)
    clear hbad hlt
    go_wp2
    go_ret
    exact ⟨-1, rfl, Or.inr ⟨by omega, HX.out⟩, rfl⟩
set_option maxHeartbeats 1000000 in
theorem contains_any (ao : Option Addr) (bs : List ISl) (n cap m B b off c0 : Nat) (a0 : Option Addr) (w : World) (hn : bs.length = n) (h : IntsList w (some ⟨b, off, none⟩) bs) (hB : w.cell? ⟨B, 0, none⟩ = some (.slice (some ⟨b, off, none⟩) n cap)) (hc : w.cell? ⟨b, off, none⟩ = some (.slice a0 m c0)) (h0 : (0 : Int) < (n : Int)) (h16 : n ≤ 1000) :
 Calls Tryz.prog 91 #[.slice (some ⟨b, off, none⟩) n cap, .func (Fn.func 92) #[] #[.pointer (some ⟨B, 0, none⟩)]] w fun e w' => e = .returned (.bool (badB bs m)) ∧ w = w' := by
 have HC := Lib.hid (idx_any ao bs n cap m B b off c0 a0 w hn h hB hc h0 h16)
 clear hn h hB hc
 go_enter Tryz.func91, Tryz.ntmps91
 go_wp2_with fail
 refine HC.out.mono ?_
 rintro e w' ⟨r, rfl, hr, rfl⟩
 rcases hr with ⟨h1, h2⟩ | ⟨h1, h2⟩
 all_goals
  have HB := Lib.hid h2
  clear h2
  go_wp2
  go_ret
  exact ⟨ret_bool (by rw [HB.out] <;> first | (rw [decide_eq_true_iff]; exact h1) | (rw [decide_eq_false_iff_not]; omega)), rfl⟩
def colOf (bs : List ISl) (j : Nat) : List Int := bs.map (fun x => x.zs.getD j 0)
def colsB (bs : List ISl) (m : Nat) : Bool := (List.range m).all fun j => sumE (colOf bs j) == 0
def mayF (bs : List ISl) : Bool :=
 decide (2 ≤ bs.length ∧ bs.length ≤ 16) && decide (1 ≤ (bs.getD 0 default).zs.length ∧ (bs.getD 0 default).zs.length ≤ 4) && !badB bs (bs.getD 0 default).zs.length && colsB bs (bs.getD 0 default).zs.length
theorem colOf_take (bs : List ISl) (j k : Nat) (hk : k < bs.length) : (colOf bs j).take (k + 1) = (colOf bs j).take k ++ [bs[k].zs.getD j 0] := by
 rw [List.take_succ_eq_append_getElem (by simpa [colOf] using hk)]; simp [colOf]
theorem badB_len {bs : List ISl} {m : Nat} (h : badB bs m = false) : ∀ i (hi : i < bs.length), bs[i].zs.length = m := fun i hi => by
 unfold badB at h
 rw [List.any_eq_false] at h
 have := h bs[i] (List.getElem_mem hi)
 simp at this; omega
theorem sum_tot (bs : List ISl) (j : Nat) (h : sumE (colOf bs j) = 0) : ∀ k, k ≤ bs.length → sumF ((colOf bs j).take k) = (tot (balOf bs) j k, 0) ∧ (∀ i, i < k → 0 ≤ balOf bs i j) ∧ tot (balOf bs) j k ≤ 4611686018427387904 := by
 intro k
 induction k with
 | zero => intro _; exact ⟨rfl, fun i hi => by omega, by simp [tot]⟩
 | succ k ih =>
   intro hk
   obtain ⟨h1, h2, h3⟩ := ih (by omega)
   have e : (bs[k]'(by omega)).zs.getD j 0 = balOf bs k j := by simp [balOf, List.getD, show k < bs.length by omega]
   have hs : sumE ((colOf bs j).take (k + 1)) = 0 := Decidable.byContradiction fun hne => by
    have := sum_stop (colOf bs j) (k + 1) hne
    unfold sumE at hne h
    rw [this] at h; exact hne h
   rw [colOf_take bs j k (by omega), e] at hs ⊢
   unfold sumE at hs
   rw [sumF_snoc, h1] at hs ⊢
   simp only [sumStep, if_true] at hs ⊢
   have hok : addOK (tot (balOf bs) j k) (balOf bs k j) = true := Decidable.byContradiction fun hne => by
    simp [addE, hne] at hs
   obtain ⟨a1, a2⟩ := addVE _ _ hok
   rw [a1, a2]
   simp only [addOK, bothB, Bool.and_eq_true, amt_iff] at hok
   unfold MA at hok
   refine ⟨rfl, fun i hi => ?_, by rw [tot]; omega⟩
   by_cases e' : i = k
   · subst e'; omega
   · exact h2 i (by omega)
theorem mayF_good {bs : List ISl} (h : mayF bs = true) : Good bs.length (bs.getD 0 default).zs.length (balOf bs) ∧ ∀ i (hi : i < bs.length), bs[i].zs.length = (bs.getD 0 default).zs.length := by
 simp only [mayF, Bool.and_eq_true, decide_eq_true_eq, Bool.not_eq_true'] at h
 obtain ⟨⟨⟨⟨h1, h2⟩, h3, h4⟩, h5⟩, h6⟩ := h
 have hc : ∀ j, j < (bs.getD 0 default).zs.length → sumE (colOf bs j) = 0 := fun j hj => by
  have := List.all_eq_true.1 h6 j (List.mem_range.2 hj)
  simpa using this
 refine ⟨⟨h1, h2, h3, h4, fun i hi j hj => (sum_tot bs j (hc j hj) _ (Nat.le_refl _)).2.1 i hi, fun j hj => (sum_tot bs j (hc j hj) _ (Nat.le_refl _)).2.2⟩, badB_len h5⟩
def RowAtI (w0 : World) (v : Value) (zs : List Int) (w : World) : Prop :=
 w.ownsRow 0 3 1 v zs.length (zs.map (Value.int .i64)) ∧ Below w0.heap.size w0 w ∧ (∀ g, v.ownBlock = some g → w0.heap.size ≤ g)
theorem rowI_nil (w0 w : World) (h : Below w0.heap.size w0 w) : RowAtI w0 (.slice none 0 0) [] w := ⟨World.ownsRow_nil _ _ _ _, h, fun g hg => by cases hg⟩
theorem rowI_step {w0 wr wa w1 : World} {v v' : Value} {zs : List Int} {z : Int} (h : RowAtI w0 v zs wr) (ha : Below w0.heap.size wr wa) (hown : w1.ownsRow 0 3 1 v' (zs.length + 1) (zs.map (Value.int .i64) ++ [.int .i64 z])) (hg : wa.grownBy w1 v.ownBlock) (hat : ∀ g, v'.ownBlock = some g → v.ownBlock = some g ∨ g = wa.heap.size) : RowAtI w0 v' (zs ++ [z]) w1 := by
 obtain ⟨h1, h2, h3⟩ := h
 have hs := h2.size
 have hs2 := ha.size
 refine ⟨by simpa using hown, (h2.trans ha).grown hg (by omega) h3, fun g hg' => ?_⟩
 rcases hat g hg' with e | e
 · exact h3 g e
 · omega
theorem rowI_done {w0 w : World} {v : Value} {zs : List Int} {n : Nat} (h : RowAtI w0 v zs w) (hn : zs.length = n) : ∃ ao cap, v = .slice ao n cap ∧ IntsAt .i64 w ao zs := by
 subst hn
 have h' := h.1
 have hf : ∃ ao cap, v = .slice ao zs.length cap := by
  rcases h'.2 with ⟨hv, hn⟩ | ⟨g, cap, cur, hv, _⟩
  · exact ⟨none, 0, by rw [hv, hn]⟩
  · exact ⟨_, cap, hv⟩
 obtain ⟨ao, cap, rfl⟩ := hf
 exact ⟨ao, cap, rfl, (owns_at h').2.1⟩
def ColsTo (bs : List ISl) (k : Nat) : Prop := ∀ j, j < k → sumE (colOf bs j) = 0
set_option maxRecDepth 100000 in
set_option maxHeartbeats 4000000 in
theorem pmay_any (ao : Option Addr) (bs : List ISl) (n cap : Nat) (w : World) (hn : bs.length = n) (h : IntsList w ao bs) :
 Calls Tryz.prog 56 #[.slice ao n cap] w fun e w' => e = .returned (.bool (mayF bs)) ∧ Below w.heap.size w w' := by
 have HN := Lib.hid hn
 have HB := Lib.hid h
 by_cases h2 : (n : Int) < 2
 · have HF := Lib.hid (show mayF bs = false by simp [mayF, hn]; omega)
   clear h hn
   go_enter Tryz.func56, Tryz.ntmps56
   go_wp2
   go_ret
   exact ⟨ret_bool HF.out.symm, (Below.refl _ _).alloc (Nat.le_refl _) _⟩
 by_cases h16 : (16 : Int) < (n : Int)
 · have HF := Lib.hid (show mayF bs = false by simp [mayF, hn]; omega)
   clear h hn
   go_enter Tryz.func56, Tryz.ntmps56
   go_wp2
   go_ret
   exact ⟨ret_bool HF.out.symm, (Below.refl _ _).alloc (Nat.le_refl _) _⟩
 have h0b : 0 < bs.length := by omega
 obtain ⟨b, off, rfl, hc0⟩ := il_cell h 0 h0b
 have hbl := World.block_lt_of_cell? w _ hc0
 have hcw : ∀ w', Below w.heap.size w w' → w'.cell? ⟨b, off + 0, none⟩ = some (.slice bs[0].ao bs[0].zs.length bs[0].cap) := fun w' hb => (hb.cell (p := ⟨b, off + 0, none⟩) hbl).trans hc0
 rw [Nat.add_zero] at hcw
 have hx0 : bs.getD 0 default = bs[0] := by simp [List.getD, h0b]
 have HFX : Hid (mayF bs = (decide (1 ≤ bs[0].zs.length ∧ bs[0].zs.length ≤ 4) && !badB bs bs[0].zs.length && colsB bs bs[0].zs.length)) := Lib.hid (by
  unfold mayF; rw [hx0, hn]
  have : (2 ≤ n ∧ n ≤ 16) := by omega
  simp [this])
 generalize hbx : bs[0] = x0 at *
 have HX0 := Lib.hid hbx
 have a1 := hcw (w.alloc (.cells #[.slice (some ⟨b, off, none⟩) n cap] 22)) ((Below.refl _ _).alloc (Nat.le_refl _) _)
 have HCW := Lib.hid hcw
 have i0 : (0 : Int) < (n : Int) := by omega
 clear hcw hc0 hx0 hbx h
 by_cases h1 : (x0.zs.length : Int) < 1
 · have HF := Lib.hid (show mayF bs = false by rw [HFX.out]; simp; omega)
   clear hn
   go_enter Tryz.func56, Tryz.ntmps56
   go_wp2
   go_ret
   exact ⟨ret_bool HF.out.symm, (Below.refl _ _).alloc (Nat.le_refl _) _⟩
 by_cases h4 : (4 : Int) < (x0.zs.length : Int)
 · have HF := Lib.hid (show mayF bs = false by rw [HFX.out]; simp; omega)
   clear hn
   go_enter Tryz.func56, Tryz.ntmps56
   go_wp2
   go_ret
   exact ⟨ret_bool HF.out.symm, (Below.refl _ _).alloc (Nat.le_refl _) _⟩
 have HW1 := Lib.hid (show Below w.heap.size w (w.alloc (.cells #[.slice (some ⟨b, off, none⟩) n cap] 22)) from (Below.refl _ _).alloc (Nat.le_refl _) _)
 have HCON := Lib.hid (contains_any none bs n cap x0.zs.length w.heap.size b off x0.cap x0.ao (w.alloc (.cells #[.slice (some ⟨b, off, none⟩) n cap] 22)) hn (HB.out.below HW1.out) (by simp) a1 i0 (by omega))
 have HFY : Hid (mayF bs = (!badB bs x0.zs.length && colsB bs x0.zs.length)) := Lib.hid (by
  rw [HFX.out]
  have : (1 ≤ x0.zs.length ∧ x0.zs.length ≤ 4) := by omega
  simp [this])
 clear hn HFX
 cases hbad : badB bs x0.zs.length
 · have HL := Lib.hid (badB_len hbad)
   have HBAD := Lib.hid hbad
   have HFZ : Hid (mayF bs = colsB bs x0.zs.length) := Lib.hid (by rw [HFY.out, hbad]; rfl)
   clear hbad HFY
   generalize hm : x0.zs.length = m at *
   clear hm
   have k0 : (w.alloc (.cells #[.slice (some ⟨b, off, none⟩) n cap] 22)).cell? ⟨w.heap.size, 0, none⟩ = some (.slice (some ⟨b, off, none⟩) n cap) := by simp
   have hsz : w.heap.size < (w.alloc (.cells #[.slice (some ⟨b, off, none⟩) n cap] 22)).heap.size := by simp
   go_enter Tryz.func56, Tryz.ntmps56
   go_wp2_with fail
   generalize w.alloc (.cells #[.slice (some ⟨b, off, none⟩) n cap] 22) = wA at *
   have K0 := Lib.hid k0
   refine HCON.out.mono ?_
   rintro e w' ⟨rfl, rfl⟩
   rw [HBAD.out]
   go_wp2_with fail
   go_loopw [38] (fun i wr => ∃ k : Nat, k ≤ m ∧ i = .int .i64 k ∧ ColsTo bs k ∧ Below wA.heap.size wA wr) (fun i _ => m + 1 - (intOf i + 1).toNat)
   case atStart => exact ⟨0, Nat.zero_le _, rfl, fun j hj => by omega, Below.refl _ _⟩
   case round =>
    obtain ⟨k, hk, rfl, hcols, hbel⟩ := hrel
    have HCOLS := Lib.hid hcols
    have HW := Lib.hid hbel
    have c0 : wr.cell? ⟨w.heap.size, 0, none⟩ = some (.slice (some ⟨b, off, none⟩) n cap) := (hbel.cell (p := ⟨w.heap.size, 0, none⟩) hsz).trans K0.out
    clear hcols hbel
    by_cases hlt : k < m
    · obtain ⟨wo, rfl⟩ : ∃ wo : World, wo = wr := ⟨_, rfl⟩
      go_wp2_with fail
      go_loopw [4, 43] (fun v i wr => ∃ q : Nat, q ≤ n ∧ i = .int .i64 q ∧ RowAtI wA v ((colOf bs k).take q) wr) (fun _ i _ => n + 1 - (intOf i + 1).toNat)
      case atStart => exact ⟨0, Nat.zero_le _, rfl, rowI_nil _ _ HW.out⟩
      case round =>
       obtain ⟨q, hq, rfl, hrow⟩ := hrel
       have HROW := Lib.hid hrow
       have HO := Lib.hid hrow.1
       have HBW := Lib.hid (HW1.out.trans (hrow.2.1.mono HW1.out.size))
       have HLEN : Hid (((colOf bs k).take q).length = q) := Lib.hid (by simp [colOf, HN.out]; omega)
       clear hrow
       by_cases hql : q < n
       · have hqb : q < bs.length := by rw [HN.out]; exact hql
         obtain ⟨b', off', he, hcell⟩ := il_cell (HB.out.below HBW.out) q hqb
         simp only [Option.some.injEq, Addr.mk.injEq, and_true] at he
         obtain ⟨rfl, rfl⟩ := he
         have hin := (il_ok (HB.out.below HBW.out) q hqb).1
         have hxl := HL.out q hqb
         have HCT := Lib.hid (colOf_take bs k q hqb)
         rw [hxl] at hcell
         generalize bs[q] = x at *
         obtain ⟨xb, xoff, hxa, hxc⟩ : ∃ xb xoff, x.ao = some ⟨xb, xoff, none⟩ ∧ wr.cell? ⟨xb, xoff + k, none⟩ = some (.int .i64 (x.zs.getD k 0)) := by
          rcases hin with h | ⟨xb, xoff, h1, h2⟩
          · rw [h] at hxl; simp at hxl; omega
          · exact ⟨xb, xoff, h1, h2 k (by omega)⟩
         rw [hxa] at hcell
         generalize x.zs.getD k 0 = z at *
         clear hin hxl hxa
         have HLE := Lib.hid HLEN.out
         generalize (colOf bs k).take q = zs at *
         obtain ⟨i0', hi, hz0, hz1, hz2⟩ := info_parts Try_infoI64
         go_wp2_with (at_builtin; refine wpList_append_any rfl _ _ 60 rfl 3 i0' (.int .i64 0) 1 8 Tryz.underlying60 hi hz0 hz1 hz2 rfl (by decide) u4 zs.length (zs.map (Value.int .i64)) rfl (HO.out.alloc _) (some ⟨wr.heap.size, 0, none⟩) 1 1 [.int .i64 z] rfl rfl ?c2 ?c3 ?c4 ?c5 ?c6 ?_)
         case c2 => intro e; cases e
         case c3 => intro ad had; cases had; exact World.news_of_block (heap_alloc_new _ _)
         case c4 => simp [Value.oneCell']
         case c5 => have := HLE.out; unfold maxLen; omega
         case c6 => have := HLE.out; omega
         intro ao' cap' w3 hown hgrow hat hnn
         have HR := Lib.hid (rowI_step (z := z) HROW.out ((Below.refl _ _).alloc HROW.out.2.1.size _) hown hgrow (fun g hg => by simpa using hat g hg))
         clear hown hgrow hat hnn
         go_wp2
         go_roundw
         case rel => exact ⟨q + 1, by omega, by go_num, by rw [HCT.out]; exact HR.out⟩
         case measure => simp [intOf]; omega
       · obtain rfl : q = n := by omega
         have HTK : Hid ((colOf bs k).take q = colOf bs k) := Lib.hid (List.take_of_length_le (by simp [colOf, HN.out]))
         rw [HTK.out] at HROW HLEN
         obtain ⟨ao', cap', rfl, hints⟩ := rowI_done HROW.out HLEN.out
         have HS := Lib.hid (by have := sum_any ao' (colOf bs k) cap' wr hints (by rw [HLEN.out]; omega); rw [HLEN.out] at this; exact this)
         have HBX := Lib.hid HROW.out.2.1
         clear hql hints HROW HO HTK
         by_cases hs : sumE (colOf bs k) = 0
         · have HSE := Lib.hid hs
           clear hs
           go_wp2_with (go_at_call 93; refine HS.out.mono ?_; rintro e w' ⟨rfl, rfl⟩; rw [HSE.out])
           go_roundw
           case rel => exact ⟨k + 1, by omega, by go_num, fun j hj => by
            by_cases e : j = k
            · rw [e]; exact HSE.out
            · exact HCOLS.out j (by omega), HBX.out⟩
           case measure => simp [intOf]; omega
         · have HSE : Hid (sumE (colOf bs k) = 1) := Lib.hid (by rcases sumF_bad (colOf bs k) with h | h; exact absurd h hs; exact h.1)
           have HF : Hid (colsB bs m = false) := Lib.hid (by
            rw [← Bool.not_eq_true]
            intro h
            have := List.all_eq_true.1 h k (List.mem_range.2 hlt)
            rw [HSE.out] at this; simp at this)
           clear hs
           go_wp2_with (go_at_call 93; refine HS.out.mono ?_; rintro e w' ⟨rfl, rfl⟩; rw [HSE.out])
           go_ret
           exact ⟨ret_bool (by rw [HFZ.out, HF.out]), HBW.out⟩
    · obtain rfl : k = m := by omega
      have HF : Hid (colsB bs k = true) := Lib.hid (by
       unfold colsB
       rw [List.all_eq_true]
       intro j hj
       rw [HCOLS.out j (List.mem_range.1 hj)]; rfl)
      have HBW := Lib.hid (HW1.out.trans (HW.out.mono HW1.out.size))
      clear hlt
      go_wp2
      go_ret
      exact ⟨ret_bool (by rw [HFZ.out, HF.out]), HBW.out⟩
 · have HF : Hid (mayF bs = false) := Lib.hid (by rw [HFY.out, hbad]; rfl)
   have HBAD := Lib.hid hbad
   clear hbad HFY
   go_enter Tryz.func56, Tryz.ntmps56
   go_wp2_with fail
   generalize w.alloc (.cells #[.slice (some ⟨b, off, none⟩) n cap] 22) = wA at *
   refine HCON.out.mono ?_
   rintro e w' ⟨rfl, rfl⟩
   rw [HBAD.out]
   go_wp2
   go_ret
   exact ⟨ret_bool HF.out.symm, HW1.out⟩
theorem PAt.mono {T : TypeId} {w : World} {p n m : Nat} {S S' : Nat → Prop} {b : Nat → Nat → Int} (h : PAt T w p S n m b) (hs : ∀ k, S k → S' k) (hl : ∀ k, S' k → k < w.heap.size) : PAt T w p S' n m b := by
 obtain ⟨L, lcap, G, C, h1, h2, h3⟩ := h
 exact ⟨L, lcap, G, C, h1, fun k hk => hs k (h2 k hk), hl⟩
theorem PNew.from_ {T : TypeId} {w0 w w' : World} {q n m : Nat} {b : Nat → Nat → Int} (h : PNew T w n m b q w') (hb : Below w0.heap.size w0 w) : PNew T w0 n m b q w' :=
 ⟨h.1.mono (fun k hk => ⟨by have := hb.size; omega, hk.2⟩) (fun k hk => hk.2), hb.trans (h.2.mono hb.size)⟩
set_option maxHeartbeats 1000000 in
theorem new_no (ao : Option Addr) (bs : List ISl) (n cap : Nat) (w : World) (hn : bs.length = n) (h : IntsList w ao bs) (hm : mayF bs = false) :
 Calls Tryz.prog 29 #[.slice ao n cap] w fun e w' => e = .returned (.tuple #[.pointer none, .int .i64 1]) ∧ Below w.heap.size w w' := by
 have HM := Lib.hid (pmay_any ao bs n cap w hn h)
 have HF := Lib.hid hm
 clear hn h hm
 go_enter Tryz.func29, Tryz.ntmps29
 go_wp2_with fail
 refine HM.out.mono ?_
 rintro e w1 ⟨rfl, hb⟩
 rw [HF.out]
 have HB := Lib.hid hb
 clear hb
 go_wp2
 go_ret2
 exact ⟨rfl, HB.out⟩
set_option maxHeartbeats 1000000 in
theorem new_yes (ao : Option Addr) (bs : List ISl) (n cap m : Nat) (w : World) (hn : bs.length = n) (h : IntsList w ao bs) (hm : mayF bs = true) (hm2 : (bs.getD 0 default).zs.length = m) :
 Calls Tryz.prog 29 #[.slice ao n cap] w fun e w' => ∃ q, e = .returned (.tuple #[.pointer (some ⟨q, 0, none⟩), .int .i64 0]) ∧ PNew 133 w n m (balOf bs) q w' := by
 have HM := Lib.hid (pmay_any ao bs n cap w hn h)
 have HF := Lib.hid hm
 obtain ⟨hg, hl⟩ := mayF_good hm
 rw [hm2] at hl hg
 rw [hn] at hg
 have HL := Lib.hid hl
 have h2 := hg.n2
 have h16 := hg.n16
 have h1 := hg.m1
 have h4 := hg.m4
 have HN := Lib.hid hn
 have HH := Lib.hid h
 clear hn h hm hl hg hm2
 go_enter Tryz.func29, Tryz.ntmps29
 go_wp2_with fail
 refine HM.out.mono ?_
 rintro e w1 ⟨rfl, hb⟩
 rw [HF.out]
 have hb2 : Below w.heap.size w (w1.alloc (.cells #[.slice ao n cap] 133)) := hb.alloc hb.size _
 have HB := Lib.hid hb2
 have HI := Lib.hid (HH.out.below hb2)
 clear hb hb2
 go_wp2_with fail
 refine (copy_any w1.heap.size ao bs n cap m _ (by simp) HI.out HN.out HL.out (by omega) (by omega) (by omega) (by omega)).mono ?_
 rintro e w2 ⟨q, rfl, hq⟩
 have HQ := Lib.hid (hq.from_ HB.out)
 clear hq
 go_wp2
 go_ret2
 exact ⟨q, rfl, HQ.out⟩
def rows2 (h : Nat) (a b : Int) : List ISl := [⟨some ⟨h, 0, none⟩, [a], 1⟩, ⟨some ⟨h + 1, 0, none⟩, [b], 1⟩]
def world2 (w : World) (a b : Int) : World := ((w.alloc (.cells #[.int .i64 a] 3)).alloc (.cells #[.int .i64 b] 3)).alloc (.cells #[.slice (some ⟨w.heap.size, 0, none⟩) 1 1, .slice (some ⟨w.heap.size + 1, 0, none⟩) 1 1] 60)
theorem world2_below (w : World) (a b : Int) : Below w.heap.size w (world2 w a b) := (((Below.refl _ _).alloc (Nat.le_refl _) _).alloc (by simp) _).alloc (by simp; omega) _
theorem world2_rows (w : World) (a b : Int) (ha : -9223372036854775808 ≤ a ∧ a ≤ 9223372036854775807) (hb : -9223372036854775808 ≤ b ∧ b ≤ 9223372036854775807) : IntsList (world2 w a b) (some ⟨w.heap.size + 2, 0, none⟩) (rows2 w.heap.size a b) := by
 have s1 : (w.alloc (.cells #[.int .i64 a] 3)).heap.size = w.heap.size + 1 := by simp
 have s2 : ((w.alloc (.cells #[.int .i64 a] 3)).alloc (.cells #[.int .i64 b] 3)).heap.size = w.heap.size + 2 := by simp
 have e0 : (world2 w a b).heap[w.heap.size]? = some (.cells #[.int .i64 a] 3 (0, 0)) := (Below.heap_alloc _ _ _ (by omega)).trans ((Below.heap_alloc _ _ _ (by omega)).trans (heap_alloc_new w _))
 have e1 : (world2 w a b).heap[w.heap.size + 1]? = some (.cells #[.int .i64 b] 3 (0, 0)) := (Below.heap_alloc _ _ _ (by omega)).trans (by rw [← s1]; exact heap_alloc_new _ _)
 have e2 : (world2 w a b).heap[w.heap.size + 2]? = some (.cells #[.slice (some ⟨w.heap.size, 0, none⟩) 1 1, .slice (some ⟨w.heap.size + 1, 0, none⟩) 1 1] 60 (0, 0)) := by rw [← s2]; exact heap_alloc_new _ _
 refine ⟨Or.inr ⟨_, _, rfl, fun i hi => ?_⟩, fun x hx => ?_⟩
 · rw [blk_cell e2]
   match i, hi with
   | 0, _ => rfl
   | 1, _ => rfl
 · simp only [rows2, List.mem_cons, List.not_mem_nil, or_false] at hx
   rcases hx with rfl | rfl
   · exact ⟨Or.inr ⟨_, _, rfl, fun i hi => by rw [blk_cell e0]; match i, hi with | 0, _ => rfl⟩, fun z hz => by simp at hz; subst hz; exact ha, Nat.le_refl _, by show 1 ≤ maxLen; decide⟩
   · exact ⟨Or.inr ⟨_, _, rfl, fun i hi => by rw [blk_cell e1]; match i, hi with | 0, _ => rfl⟩, fun z hz => by simp at hz; subst hz; exact hb, Nat.le_refl _, by show 1 ≤ maxLen; decide⟩
def ex9 (h : Nat) : List ISl := rows2 h 5 0
theorem ex9_may (h : Nat) : mayF (ex9 h) = true := by kernel_rfl
theorem lockedX_cons (x : XR) (l : List XR) (j : Int) : lockedX (x :: l) j = lockedX [x] j + lockedX l j := lockedX_app [x] l j
theorem lockedX_one (x : XR) (j : Int) : lockedX [x] j = if x.s = 0 ∧ x.a = j then x.n else 0 := by
 unfold lockedX
 by_cases hs : x.s = 0 ∧ x.a = j
 · rw [if_pos hs]; simp [hs.1, hs.2]
 · rw [if_neg hs]
   have : (x.s == 0 && x.a == j) = false := by
    rw [Bool.eq_false_iff]
    intro h
    rw [Bool.and_eq_true, beq_iff_eq, beq_iff_eq] at h
    exact hs h
   simp [this]
theorem lockedX_set (st : Int) (sec : ByteArray) (hst : st ≠ 0) (j : Int) : ∀ (l : List XR) (k : Nat) (h : k < l.length), l[k].s = 0 → lockedX (l.set k (l[k].close st sec)) j = lockedX l j - (if l[k].a = j then l[k].n else 0)
 | [], k, h => by simp at h
 | x :: l, 0, _ => fun hs => by
   simp only [List.getElem_cons_zero] at hs
   simp only [List.set_cons_zero, List.getElem_cons_zero]
   rw [lockedX_cons, lockedX_cons x l, lockedX_one, lockedX_one, if_neg (fun h => hst h.1)]
   by_cases ha : x.a = j
   · rw [if_pos ⟨hs, ha⟩, if_pos ha]; omega
   · rw [if_neg (fun h => ha h.2), if_neg ha]; omega
 | x :: l, k + 1, h => fun hs => by
   have ih := lockedX_set st sec hst j l k (by simpa using h) (by simpa using hs)
   simp only [List.set_cons_succ, List.getElem_cons_succ]
   rw [lockedX_cons, lockedX_cons x l, ih]
   omega
theorem openX_cons (x : XR) (l : List XR) : openX (x :: l) = (if x.s = 0 then 1 else 0) + openX l := by
 unfold openX
 by_cases hs : x.s = 0
 · rw [if_pos hs]; simp [hs]; omega
 · rw [if_neg hs]; simp [hs]
theorem openX_set (st : Int) (sec : ByteArray) (hst : st ≠ 0) : ∀ (l : List XR) (k : Nat) (h : k < l.length), l[k].s = 0 → openX (l.set k (l[k].close st sec)) + 1 = openX l
 | [], k, h => by simp at h
 | x :: l, 0, _ => fun hs => by
   simp only [List.getElem_cons_zero] at hs
   simp only [List.set_cons_zero, List.getElem_cons_zero]
   rw [openX_cons, openX_cons x l, if_pos hs, if_neg (show ¬ (x.close st sec).s = 0 from hst)]
   omega
 | x :: l, k + 1, h => fun hs => by
   have ih := openX_set st sec hst l k (by simpa using h) (by simpa using hs)
   simp only [List.set_cons_succ, List.getElem_cons_succ]
   rw [openX_cons, openX_cons x l]
   omega
section
variable {n m : Nat} {b : Nat → Nat → Int} {l : List XR} {T : Nat → Int}
theorem lockE_zero {fr tt a amt d ck : Int} {s : ByteArray} (h : lockE n m b fr tt a amt s d ck = 0) : mayL n m fr tt a amt d ck = true ∧ s.size = 32 ∧ fr ≠ tt ∧ ck < d ∧ takeE n m b fr a amt = 0 := by
 unfold lockE at h
 split at h
 · rename_i h1
   split at h
   · rename_i h2
     split at h
     · simp at h
     · rename_i h3
       split at h
       · simp at h
       · exact ⟨h1, h2, h3, by omega, h⟩
   · simp at h
 · simp at h
theorem claimE_zero {who id ck : Int} {sec : ByteArray} (h : claimE n m b l who id sec ck = 0) : idB l id = true ∧ who = (atX l id).t ∧ (atX l id).s = 0 ∧ (tickB ck = true ∧ ck < (atX l id).d) ∧ sec.size = 32 ∧ shaS sec = (atX l id).h ∧ giveE n m b (atX l id).t (atX l id).a (atX l id).n = 0 := by
 unfold claimE at h
 split at h
 · rename_i h1
   split at h
   · rename_i h2
     split at h
     · rename_i h3
       split at h
       · rename_i h4
         split at h
         · rename_i h5
           split at h
           · rename_i h6
             exact ⟨h1, h2, h3, h4, h5, h6, h⟩
           · simp at h
         · simp at h
       · simp at h
     · simp at h
   · simp at h
 · simp at h
theorem refundE_zero {who id ck : Int} (h : refundE n m b l who id ck = 0) : idB l id = true ∧ who = (atX l id).f ∧ (atX l id).s = 0 ∧ (tickB ck = true ∧ (atX l id).d ≤ ck) ∧ giveE n m b (atX l id).f (atX l id).a (atX l id).n = 0 := by
 unfold refundE at h
 split at h
 · rename_i h1
   split at h
   · rename_i h2
     split at h
     · rename_i h3
       split at h
       · rename_i h4
         exact ⟨h1, h2, h3, h4, h⟩
       · simp at h
     · simp at h
   · simp at h
 · simp at h
theorem giveE_zero {a j x : Int} (h : giveE n m b a j x = 0) : giveOK n m b a j x = true := by
 unfold giveE at h
 split at h
 · assumption
 · simp at h
theorem BInv.lock (h : BInv n m b l T) (hl : l.length < 100000) (fr tt a amt : Int) (s : ByteArray) (d ck : Int) : BInv n m (lockB n m b fr tt a amt s d ck) (lockL n m b l fr tt a amt s d ck) T := by
 unfold lockB lockL
 by_cases e : lockE n m b fr tt a amt s d ck = 0
 · rw [if_pos e, if_pos e]
   obtain ⟨h1, h2, h3, h4, h5⟩ := lockE_zero e
   unfold mayL at h1
   simp only [Bool.and_eq_true, decide_eq_true_eq, amt_iff] at h1
   obtain ⟨⟨f0, f1⟩, ⟨t0, t1⟩, ⟨a0, a1⟩, ⟨m0, m1⟩, _⟩ := h1
   have ho := take_ok h5
   refine ⟨h.good.take fr a amt, fun x hx => ?_, fun j hj => ?_, h.max, by rw [List.length_append, List.length_singleton]; omega⟩
   · rcases List.mem_append.1 hx with hx | hx
     · exact h.esc x hx
     · rw [List.mem_singleton] at hx
       rw [hx]
       exact ⟨⟨f0, f1⟩, ⟨t0, t1⟩, ⟨a0, a1⟩, m0, m1⟩
   · rw [lockedX_app, lockedX_one]
     have hs := h.sum j hj
     unfold takeN
     rw [if_pos h5]
     by_cases ha : a = (j : Int)
     · rw [if_pos ⟨rfl, ha⟩]
       obtain rfl : j = a.toNat := by omega
       rw [tot_upd (by omega)]
       show _ + (_ + amt) = _
       omega
     · rw [if_neg (fun hh => ha hh.2), tot_upd_far (Or.inr (by omega))]
       omega
 · rw [if_neg e, if_neg e]; exact h
theorem BInv.closes (h : BInv n m b l T) {k : Nat} (hk : k < l.length) (hs : l[k].s = 0) {p st : Int} (hst : st ≠ 0) (sec : ByteArray) (hg : giveE n m b p l[k].a l[k].n = 0) : BInv n m (giveN n m b p l[k].a l[k].n) (l.set k (l[k].close st sec)) T := by
 have hok := giveE_zero hg
 obtain ⟨g1, g2, g3, g4, g5, g6⟩ := give_ok hok
 refine ⟨h.good.give _ _ _, fun x hx => ?_, fun j hj => ?_, h.max, by rw [List.length_set]; exact h.few⟩
 · rcases List.mem_or_eq_of_mem_set hx with hx | hx
   · exact h.esc x hx
   · rw [hx]; exact h.esc l[k] (List.getElem_mem hk)
 · rw [lockedX_set st sec hst _ l k hk hs]
   have hj2 := h.sum j hj
   unfold giveN
   rw [if_pos hok]
   by_cases ha : l[k].a = (j : Int)
   · rw [if_pos ha]
     have e : l[k].a.toNat = j := by omega
     rw [e, tot_upd (by omega)]
     omega
   · rw [if_neg ha, tot_upd_far (Or.inr (by omega))]
     omega
theorem BInv.claim (h : BInv n m b l T) (who id : Int) (sec : ByteArray) (ck : Int) : BInv n m (claimB n m b l who id sec ck) (claimL n m b l who id sec ck) T := by
 unfold claimB claimL
 by_cases e : claimE n m b l who id sec ck = 0
 · rw [if_pos e, if_pos e]
   obtain ⟨h1, _, h3, _, _, _, h7⟩ := claimE_zero e
   obtain ⟨k, rfl, hk⟩ := idB_at h1
   rw [atX_at hk] at h3 h7 ⊢
   rw [Int.toNat_natCast]
   exact h.closes hk h3 (by omega) sec h7
 · rw [if_neg e, if_neg e]; exact h
theorem BInv.refund (h : BInv n m b l T) (who id ck : Int) : BInv n m (refundB n m b l who id ck) (refundL n m b l who id ck) T := by
 unfold refundB refundL
 by_cases e : refundE n m b l who id ck = 0
 · rw [if_pos e, if_pos e]
   obtain ⟨h1, _, h3, _, h7⟩ := refundE_zero e
   obtain ⟨k, rfl, hk⟩ := idB_at h1
   rw [atX_at hk] at h3 h7 ⊢
   rw [Int.toNat_natCast]
   exact h.closes hk h3 (by omega) _ h7
 · rw [if_neg e, if_neg e]; exact h
end
def EB (S : Nat → Prop) (W w : World) (n m : Nat) (b : Nat → Nat → Int) (l : List XR) (T : Nat → Int) (B tb q : Nat) : Prop :=
 ∃ Sp v, BK w Sp B tb q n m b l v ∧ ¬ Sp tb ∧ TabOk w tb ∧ BInv n m b l T ∧ Below W.heap.size W w ∧ (∀ i, S i ↔ (fpK Sp B v i ∨ i = tb)) ∧ ∀ i, S i → W.heap.size ≤ i
section
variable {S S' : Nat → Prop} {W w w' : World} {n m : Nat} {b b' : Nat → Nat → Int} {l l' : List XR} {T : Nat → Int} {B tb q : Nat}
theorem EB.bel (h : EB S W w n m b l T B tb q) : Below W.heap.size W w := by obtain ⟨_, _, _, _, _, _, h, _⟩ := h; exact h
theorem EB.inv (h : EB S W w n m b l T B tb q) : BInv n m b l T := by obtain ⟨_, _, _, _, _, h, _⟩ := h; exact h
theorem EB.new (h : EB S W w n m b l T B tb q) : ∀ i, S i → W.heap.size ≤ i := by obtain ⟨_, _, _, _, _, _, _, _, h⟩ := h; exact h
theorem EB.lt (h : EB S W w n m b l T B tb q) : ∀ i, S i → i < w.heap.size := by
 obtain ⟨Sp, v, h1, _, h3, _, _, h6, _⟩ := h
 intro i hi
 rcases (h6 i).1 hi with h | rfl
 · exact h1.lt i h
 · exact h3.lt
theorem EB.keep {S2 : Nat → Prop} (h : EB S W w n m b l T B tb q) (hk : Keeps S2 w w') (hs : ∀ i, S2 i → ¬ S i) (hn : ∀ i, S2 i → W.heap.size ≤ i) : EB S W w' n m b l T B tb q := by
 obtain ⟨Sp, v, h1, h2, h3, h4, h5, h6, h7⟩ := h
 exact ⟨Sp, v, h1.keep hk (fun i hi h => hs i h ((h6 i).2 (Or.inl hi))), h2, tab_keep h3 hk (fun h => hs tb h ((h6 tb).2 (Or.inr rfl))), h4, below_fp h5 hk hn, h6, h7⟩
theorem EB.below (h : EB S W w n m b l T B tb q) (hb : Below w.heap.size w w') : EB S W w' n m b l T B tb q := h.keep (Keeps.of_below (S := fun _ => False) hb) (fun _ h => h.elim) (fun _ h => h.elim)
def EPost (S : Nat → Prop) (W w : World) (n m : Nat) (b : Nat → Nat → Int) (l : List XR) (T : Nat → Int) (B tb q : Nat) (w' : World) : Prop :=
 ∃ S', EB S' W w' n m b l T B tb q ∧ Keeps S w w' ∧ ∀ i, S' i → S i ∨ w.heap.size ≤ i
theorem EB.tpost {Sp : Nat → Prop} {v : Value} (h1 : BK w Sp B tb q n m b l v) (h2 : ¬ Sp tb) (h5 : Below W.heap.size W w) (h6 : ∀ i, S i ↔ (fpK Sp B v i ∨ i = tb)) (h7 : ∀ i, S i → W.heap.size ≤ i) (hI : BInv n m b' l' T) (hp : TPost w Sp B tb q n m v b' l' w') : EPost S W w n m b' l' T B tb q w' := by
 obtain ⟨t, v', k1, k2, k3⟩ := hp
 have hk : Keeps S w w' := k2.mono (fun i _ hi => (h6 i).2 hi)
 have hn : ∀ i, (fpK Sp B v' i ∨ i = tb) → S i ∨ w.heap.size ≤ i := by
  rintro i ((rfl | hi | hi) | rfl)
  · exact Or.inl ((h6 i).2 (Or.inl (Or.inl rfl)))
  · rcases k3 i hi with h | h
    · exact Or.inl ((h6 i).2 (Or.inl (Or.inr (Or.inl h))))
    · exact Or.inr h
  · exact Or.inl ((h6 i).2 (Or.inl (Or.inr (Or.inr hi))))
  · exact Or.inl ((h6 i).2 (Or.inr rfl))
 refine ⟨fun i => fpK Sp B v' i ∨ i = tb, ⟨Sp, v', k1, h2, t, hI, below_fp h5 hk h7, fun i => Iff.rfl, fun i hi => ?_⟩, hk, hn⟩
 rcases hn i hi with h | h
 · exact h7 i h
 · exact Nat.le_trans h5.size h
theorem EB.lock (h : EB S W w n m b l T B tb q) (hl : l.length < 100000) (fr tt a amt : Int) (s : ByteArray) (d ck : Int) :
 Calls Tryz.prog 63 #[.pointer (some ⟨B, 0, none⟩), .int .i64 fr, .int .i64 tt, .int .i64 a, .int .i64 amt, .string s, .int .i64 d, .int .i64 ck] w fun e w' =>
  e = .returned (.tuple #[.int .i64 (lockI n m b l fr tt a amt s d ck), .int .i64 (lockE n m b fr tt a amt s d ck)]) ∧ EPost S W w n m (lockB n m b fr tt a amt s d ck) (lockL n m b l fr tt a amt s d ck) T B tb q w' := by
 obtain ⟨Sp, v, h1, h2, h3, h4, h5, h6, h7⟩ := h
 refine (book_lock h1 h4 fr tt a amt s d ck).mono ?_
 rintro e w' ⟨rfl, v', k1, k2, k3⟩
 exact ⟨rfl, EB.tpost h1 h2 h5 h6 h7 (h4.lock hl fr tt a amt s d ck) ⟨tab_keep h3 k2 (h1.tabN h3 h2), v', k1, k2.mono (fun i _ hi => Or.inl hi), k3⟩⟩
theorem EB.claim (h : EB S W w n m b l T B tb q) (who id : Int) (sec : ByteArray) (ck : Int) :
 Calls Tryz.prog 64 #[.pointer (some ⟨B, 0, none⟩), .int .i64 who, .int .i64 id, .string sec, .int .i64 ck] w fun e w' =>
  e = .returned (.int .i64 (claimE n m b l who id sec ck)) ∧ EPost S W w n m (claimB n m b l who id sec ck) (claimL n m b l who id sec ck) T B tb q w' := by
 obtain ⟨Sp, v, h1, h2, h3, h4, h5, h6, h7⟩ := h
 refine (book_claim h1 h4 h3 h2 who id sec ck).mono ?_
 rintro e w' ⟨rfl, hp⟩
 exact ⟨rfl, EB.tpost h1 h2 h5 h6 h7 (h4.claim who id sec ck) hp⟩
theorem EB.refund (h : EB S W w n m b l T B tb q) (who id ck : Int) :
 Calls Tryz.prog 65 #[.pointer (some ⟨B, 0, none⟩), .int .i64 who, .int .i64 id, .int .i64 ck] w fun e w' =>
  e = .returned (.int .i64 (refundE n m b l who id ck)) ∧ EPost S W w n m (refundB n m b l who id ck) (refundL n m b l who id ck) T B tb q w' := by
 obtain ⟨Sp, v, h1, h2, h3, h4, h5, h6, h7⟩ := h
 refine (book_refund h1 h4 h3 h2 who id ck).mono ?_
 rintro e w' ⟨rfl, hp⟩
 exact ⟨rfl, EB.tpost h1 h2 h5 h6 h7 (h4.refund who id ck) hp⟩
theorem EB.purse (h : EB S W w n m b l T B tb q) : Calls Tryz.prog 58 #[.pointer (some ⟨B, 0, none⟩)] w fun e w' => e = .returned (.pointer (some ⟨q, 0, none⟩)) ∧ w = w' := by
 obtain ⟨Sp, v, h1, _⟩ := h; exact book_purse h1
theorem EB.opens (h : EB S W w n m b l T B tb q) : Calls Tryz.prog 97 #[.pointer (some ⟨B, 0, none⟩)] w fun e w' => e = .returned (.int .i64 (openX l : Int)) ∧ Below w.heap.size w w' := by
 obtain ⟨Sp, v, h1, _, _, h4, _⟩ := h; exact book_open h1 h4.few
end
def mayB (size : Int) : Bool := decide (1 ≤ size ∧ size ≤ 8)
def byteAt (n : Int) (i : Nat) : Int := IntKind.u8.wrap (n / 2 ^ (8 * i))
def putB (n : Int) : Nat → List Int
 | 0 => []
 | k + 1 => byteAt n k :: putB n k
def fitsB (n size : Int) : Bool := mayB size && amtB n && (decide (8 ≤ size) || decide (n / 2 ^ (8 * size.toNat) ≤ 0))
def encNum (bs : List Int) (e n size : Int) : List Int × Int := if e = 0 then (if fitsB n size then (bs ++ putB n size.toNat, 0) else (bs, 1)) else (bs, e)
set_option maxHeartbeats 400000 in
theorem may_any (size : Int) (w : World) :
 Calls Tryz.prog 68 #[.int .i64 size] w fun e w' => e = .returned (.bool (mayB size)) ∧ w = w' := by
 go_enter Tryz.func68, Tryz.ntmps68
 go_wp2
 all_goals
  go_ret
  exact ⟨ret_bool (by unfold mayB; simp; omega), rfl⟩
set_option maxHeartbeats 400000 in
theorem newEnc (w : World) :
 Calls Tryz.prog 35 #[] w fun e w' => e = .returned (.pointer (some ⟨w.heap.size, 0, none⟩)) ∧ w' = w.alloc (.cells #[.slice none 0 0, .int .i64 0] 144) := by
 go_enter Tryz.func35, Tryz.ntmps35
 go_wp2
 go_ret
 exact ⟨rfl, rfl⟩
theorem putB_length (n : Int) (s : Nat) : (putB n s).length = s := by
 induction s with
 | zero => rfl
 | succ s ih => simp [putB, ih]
theorem putB_take (n : Int) (s k : Nat) (hk : k < s) : (putB n s).take (s - k) = (putB n s).take (s - (k + 1)) ++ [byteAt n k] := by
 induction s with
 | zero => omega
 | succ s ih =>
   by_cases h : k = s
   · subst h
     rw [show k + 1 - k = 1 by omega, show k + 1 - (k + 1) = 0 by omega]; simp [putB]
   · have := ih (by omega)
     rw [show s + 1 - k = (s - k) + 1 by omega, show s + 1 - (k + 1) = (s - (k + 1)) + 1 by omega]
     simp [putB, this]
set_option maxRecDepth 100000 in
set_option maxHeartbeats 2000000 in
theorem enc_num (p : Nat) (v : Value) (bs : List Int) (e n size : Int) (w : World) (h : EncAt 144 w p v bs e) (hlen : bs.length + 8 ≤ 140737488355328) :
 Calls Tryz.prog 36 #[.pointer (some ⟨p, 0, none⟩), .int .i64 n, .int .i64 size] w fun en w' => en = .returned (.tuple #[]) ∧ EncPost 144 w p v (encNum bs e n size).1 (encNum bs e n size).2 w' := by
 have h' := h
 obtain ⟨hp, hown, hne⟩ := h'
 have c0 := blk_cell hp 0
 have c1 := blk_cell hp 1
 have f0 := blk_frozen hp 0
 have f1 := blk_frozen hp 1
 simp only [lq] at c0 c1
 by_cases he : e = 0
 · subst he
   have hbad : fitsB n size = false → EncPost 144 w p v (encNum bs 0 n size).1 (encNum bs 0 n size).2 (w.setCell ⟨p, 1, none⟩ (.int .i64 1)) := fun hf => by
    rw [show encNum bs 0 n size = (bs, 1) by simp [encNum, hf]]
    exact enc_err h 1
   by_cases hm : mayB size = true
   · have hm' := hm
     simp only [mayB, decide_eq_true_eq] at hm'
     obtain ⟨s, rfl⟩ := Int.eq_ofNat_of_zero_le (show 0 ≤ size by omega)
     obtain ⟨hs1, hs2⟩ := hm'
     by_cases ha : amtB n = true
     · by_cases hq : (s : Int) < 8 ∧ 0 < n / 2 ^ (8 * s)
       · have HN : fitsB n s = false := by simp [fitsB, hm, ha]; omega
         obtain ⟨hq1, hq2⟩ := hq
         have hq3 : min (8 * s) 64 = 8 * s := by omega
         have HP := Lib.hid (hbad HN)
         clear hbad h hp hown hne
         go_enter Tryz.func36, Tryz.ntmps36
         go_wp2_with (first | (go_at_call 68; refine (may_any _ _).mono ?_; rintro e w' ⟨rfl, rfl⟩) | (go_at_call 69; refine (amount_any _ _).mono ?_; rintro e w' ⟨rfl, rfl⟩))
         refine bodyPost_ret (results_none rfl _ _ _) rfl ⟨rfl, HP.out⟩
       · have HN := Lib.hid (show encNum bs 0 n s = (bs ++ putB n s, 0) by simp [encNum, fitsB, hm, ha]; omega)
         have hq' : ¬ (s : Int) < 8 ∨ ((s : Int) < 8 ∧ min (8 * s) 64 = 8 * s ∧ ¬ 0 < n / 2 ^ (8 * s)) := by omega
         obtain ⟨i0, hi, hz0, hz1, hz2⟩ := info_parts Try_infoU8
         have hpl := blk_lt hp
         have H0 := Lib.hid (show EncPost 144 w p v (bs ++ (putB n s).take (s - s)) 0 w from by simpa using EncPost.refl h)
         clear hbad h hp hown hne
         rcases hq' with hq | ⟨hq1, hq2, hq3⟩
         all_goals
          go_enter Tryz.func36, Tryz.ntmps36
          go_wp2_with (first | (go_at_call 68; refine (may_any _ _).mono ?_; rintro e w' ⟨rfl, rfl⟩) | (go_at_call 69; refine (amount_any _ _).mono ?_; rintro e w' ⟨rfl, rfl⟩))
          go_loopw [6] (fun i wr => ∃ j : Int, -1 ≤ j ∧ j < s ∧ i = .int .i64 j ∧ EncPost 144 w p v (bs ++ (putB n s).take (s - (j + 1).toNat)) 0 wr) (fun i _ => (intOf i + 1).toNat)
          case atStart => exact ⟨(s : Int) - 1, by omega, by omega, rfl, by rw [show ((s : Int) - 1 + 1).toNat = s by omega]; exact H0.out⟩
          case round =>
           obtain ⟨j, hj1, hj2, rfl, v', hE, hK, hF⟩ := hrel
           by_cases hj : 0 ≤ j
           · obtain ⟨m, rfl⟩ := Int.eq_ofNat_of_zero_le hj
             rw [show ((m : Int) + 1).toNat = m + 1 by omega] at hE
             have HT := Lib.hid (putB_take n s m (by omega))
             have hE' := hE
             obtain ⟨hp', hown', hne'⟩ := hE'
             have k0 := blk_cell hp' 0
             have k0f := blk_frozen hp' 0
             simp only [List.getElem?_toArray, List.getElem?_cons_zero] at k0
             have hL : (bs ++ (putB n s).take (s - (m + 1))).length + 1 ≤ 140737488355328 := by simp [putB_length]; omega
             generalize hbb : bs ++ (putB n s).take (s - (m + 1)) = bb at *
             have HBB := Lib.hid hbb
             have HE := Lib.hid hE
             have HOWN := Lib.hid hown'
             have HNE := Lib.hid hne'
             have hpw := blk_lt hp'
             have hmin : min (8 * m) 64 = 8 * m := by omega
             clear hbb hE hown' hp' hne'
             have hw8 : IntKind.i64.wrap (8 * (m : Int)) = 8 * (m : Int) := IntWalk.i64_in _ (by omega)
             have hw9 : (0 : Int) ≤ 8 * (m : Int) := by omega
             have hw10 : (8 * (m : Int)).toNat = 8 * m := by omega
             go_wp2_with fail
             go_region_law
              ((refine step_append_lies _ (by rfl) _ _ _ (by rfl) 0 5 i0 _ 1 1 Tryz.underlying62 hi hz0 hz1 hz2 rfl (by omega) v' bb.length (bb.map (Value.int .u8)) (by rfl) ((HOWN.out.alloc _)) ⟨wr.heap.size, 0, none⟩ 1 1 [.int .u8 (IntKind.u8.wrap (n / 2 ^ (8 * m)))] (by rfl) (by rfl) (World.news_of_block (cs := #[.int .u8 (IntKind.u8.wrap (n / 2 ^ (8 * m)))]) (t := 5) (fr := (0, 0)) (heap_alloc_new _ _)) (by simp [Value.oneCell']) (by omega) (by unfold maxLen; omega) (by omega) (by omega) (wr.heap.size + 1) (by simp) ?_; intro gg cap w1 hown1 hgrow hat hlt; have k1 : w1.cell? ⟨p, 0, none⟩ = some v' := ((hgrow.cell_far _ (by simp; omega) (Ne.symm HNE.out)).trans ((World.cell?_alloc_past _ _ _ hpw).trans k0)); have k1f : w1.frozen? ⟨p, 0, none⟩ = false := ((hgrow.frozen_far _ (by simp; omega) (Ne.symm HNE.out)).trans ((World.frozen?_alloc_past _ _ _ hpw).trans k0f))))
             all_goals
              have R := Lib.hid (EncPost.trans hK hF (enc_app (zs := [IntKind.u8.wrap (n / 2 ^ (8 * m))]) (wa := (wr.alloc (.cells #[.int .u8 (IntKind.u8.wrap (n / 2 ^ (8 * m)))] 5)).drew) HE.out (((Keeps.refl _ wr).alloc _).drew) (by simpa using hown1) hgrow (fun g hg => by
               simp only [Value.ownBlock, Option.some.injEq] at hg
               subst hg
               rcases hat with h | h
               · exact Or.inl h
               · exact Or.inr (by omega))))
              clear hown1 hgrow hat hF hK
              go_wp2
              go_roundw
              case rel =>
               refine ⟨(m : Int) - 1, by omega, by omega, rfl, ?_⟩
               have h1 := R.out
               rw [← HBB.out, List.append_assoc] at h1
               rw [show ((m : Int) - 1 + 1).toNat = m by omega, HT.out, ← HBB.out]
               exact h1
              case measure => simp [intOf] <;> omega
           · have HR : Hid (EncPost 144 w p v (encNum bs 0 n s).1 (encNum bs 0 n s).2 wr) := by
              rw [HN.out]
              have e1 : (j + 1).toNat = 0 := by omega
              rw [e1, Nat.sub_zero, List.take_of_length_le (by simp [putB_length])] at hE
              exact Lib.hid ⟨v', hE, hK, hF⟩
             clear hE hK hF
             go_wp2
             go_end0
             exact ⟨rfl, HR.out⟩
     · simp at ha
       have HN : fitsB n s = false := by simp [fitsB, ha]
       have HP := Lib.hid (hbad HN)
       clear hbad h hp hown hne
       go_enter Tryz.func36, Tryz.ntmps36
       go_wp2_with (first | (go_at_call 68; refine (may_any _ _).mono ?_; rintro e w' ⟨rfl, rfl⟩) | (go_at_call 69; refine (amount_any _ _).mono ?_; rintro e w' ⟨rfl, rfl⟩))
       refine bodyPost_ret (results_none rfl _ _ _) rfl ⟨rfl, HP.out⟩
   · simp at hm
     have HN : fitsB n size = false := by simp [fitsB, hm]
     have HP := Lib.hid (hbad HN)
     clear hbad h hp hown hne
     go_enter Tryz.func36, Tryz.ntmps36
     go_wp2_with (first | (go_at_call 68; refine (may_any _ _).mono ?_; rintro e w' ⟨rfl, rfl⟩) | (go_at_call 69; refine (amount_any _ _).mono ?_; rintro e w' ⟨rfl, rfl⟩))
     refine bodyPost_ret (results_none rfl _ _ _) rfl ⟨rfl, HP.out⟩
 · have he' : (e != 0) = true := by simp [he]
   have hN := Lib.hid (show encNum bs e n size = (bs, e) by simp [encNum, he])
   have HP : Hid (EncPost 144 w p v bs e w) := Lib.hid (EncPost.refl h)
   clear he h hp hown hne
   go_enter Tryz.func36, Tryz.ntmps36
   go_wp2
   refine bodyPost_ret (results_none rfl _ _ _) rfl ⟨rfl, ?_⟩
   rw [hN.out]; exact HP.out
def doneB (bs : List Int) (e : Int) : List Int := if e = 0 then bs else []
set_option maxHeartbeats 1000000 in
theorem enc_done (p : Nat) (v : Value) (bs : List Int) (e : Int) (w : World) (h : EncAt 144 w p v bs e) (hlen : bs.length ≤ 140737488355328) :
 Calls Tryz.prog 37 #[.pointer (some ⟨p, 0, none⟩)] w fun en w' => RowPost2 w (doneB bs e) e en w' := by
 obtain ⟨hp, hown, hne⟩ := h
 have c0 := blk_cell hp 0
 have c1 := blk_cell hp 1
 simp only [lq] at c0 c1
 by_cases he : e = 0
 · subst he
   obtain ⟨ao, cap, rfl⟩ : ∃ ao cap, v = .slice ao bs.length cap := by
    rcases hown.2 with ⟨hv, hn⟩ | ⟨g, cap, cur, hv, _⟩
    · exact ⟨none, 0, by rw [hv, hn]⟩
    · exact ⟨_, cap, hv⟩
   have HC := Lib.hid (clone_u8 ao bs bs.length cap w rfl (owns_at hown).2.1 hlen)
   clear hp hown hne
   go_enter Tryz.func37, Tryz.ntmps37
   go_wp2_with fail
   refine HC.out.mono ?_
   rintro e w1 ⟨ao', cap', rfl, hr⟩
   have HR := Lib.hid hr
   clear hr HC
   go_wp2
   go_ret2
   exact ⟨ao', cap', by simp [doneB], by simpa [doneB] using HR.out⟩
 · have he' : (e != 0) = true := by simp [he]
   have HD := Lib.hid (show doneB bs e = [] by simp [doneB, he])
   clear he hp hown hne
   go_enter Tryz.func37, Tryz.ntmps37
   go_wp2
   go_quiet (fail)
   go_wp2
   go_ret2
   rw [HD.out]
   exact ⟨none, 0, rfl, World.ownsRow_nil _ _ _ _, by repeat (first | exact Below.refl _ _ | exact Keeps.below ((Keeps.refl (fun _ => False) _).drewN _) (Nat.le_refl _) (fun _ f => f.elim)), fun g hg => by cases hg⟩
theorem fits_len (n : Nat) (h : n ≤ 65535) : fitsB n 2 = true := by
 have h1 : amtB (n : Int) = true := (amt_iff _).2 ⟨by omega, by unfold MA; omega⟩
 have h2 : (n : Int) / 2 ^ (8 * (2 : Int).toNat) ≤ 0 := by
  show (n : Int) / 65536 ≤ 0
  omega
 simp [fitsB, h1]
 exact ⟨by decide, by omega⟩
def numOut (st : List Int × Bool) (n size : Int) : List Int × Bool := if fitsB n size = true then (st.1 ++ putB n size.toNat, st.2) else (st.1, true)
theorem encNum_0 (n size : Int) : encNum [] 0 n size = if fitsB n size then (putB n size.toNat, 0) else ([], 1) := by simp [encNum]
set_option maxHeartbeats 1000000 in
theorem out_num (p : Nat) (v : Value) (bs : List Int) (bad : Bool) (n size : Int) (w : World) (h : BufAt 147 w p v bs (.bool bad)) (hlen : bs.length + 8 ≤ 140737488355328) :
 Calls Tryz.prog 95 #[.pointer (some ⟨p, 0, none⟩), .int .i64 n, .int .i64 size] w fun en w' => en = .returned (.tuple #[]) ∧ BufPost 147 w p v (numOut (bs, bad) n size).1 (.bool (numOut (bs, bad) n size).2) w' := by
 have H := Lib.hid h
 have HN : Hid (∃ ob oe, encNum [] 0 n size = (ob, oe) ∧ ob.length ≤ 8 ∧ (doneB ob oe).length ≤ 8 ∧ ((oe = 0 ∧ numOut (bs, bad) n size = (bs ++ doneB ob oe, bad)) ∨ (oe = 1 ∧ numOut (bs, bad) n size = (bs ++ doneB ob oe, true)))) := Lib.hid (by
  rw [encNum_0]
  by_cases hf : fitsB n size = true
  · have hs : mayB size = true := by simp only [fitsB, Bool.and_eq_true] at hf; exact hf.1.1
    simp only [mayB, decide_eq_true_eq] at hs
    exact ⟨_, _, if_pos hf, by rw [putB_length]; omega, by simp [doneB, putB_length]; omega, Or.inl ⟨rfl, by simp [numOut, hf, doneB]⟩⟩
  · exact ⟨_, _, if_neg hf, Nat.zero_le _, by simp [doneB], Or.inr ⟨rfl, by simp [numOut, hf, doneB]⟩⟩)
 obtain ⟨ob, oe, he, hl8, hz8, hcase⟩ := HN.out
 have HE := Lib.hid he
 have HCS := Lib.hid hcase
 obtain ⟨i0, hi, hz0, hz1, hz2⟩ := info_parts Try_infoU8
 have hpl := blk_lt h.1
 clear h HN he hcase
 go_enter Tryz.func95, Tryz.ntmps95
 go_wp2_with fail
 refine (newEnc _).mono ?_
 rintro en w1 ⟨rfl, rfl⟩
 have HB1 := Lib.hid (show Below w.heap.size w (w.alloc (.cells #[.slice none 0 0, .int .i64 0] 144)) from (Below.refl _ _).alloc (Nat.le_refl _) _)
 have HA1 := Lib.hid (show EncAt 144 (w.alloc (.cells #[.slice none 0 0, .int .i64 0] 144)) w.heap.size (.slice none 0 0) [] 0 from ⟨heap_alloc_new w _, World.ownsRow_nil _ _ _ _, fun h => by cases h⟩)
 have hw1 : w.heap.size ≤ (w.alloc (.cells #[.slice none 0 0, .int .i64 0] 144)).heap.size := by simp
 generalize w.alloc (.cells #[.slice none 0 0, .int .i64 0] 144) = w1 at *
 go_wp2_with fail
 refine (enc_num _ _ [] 0 n size _ HA1.out (by simp)).mono ?_
 rintro en w2 ⟨rfl, h2⟩
 rw [HE.out] at h2
 obtain ⟨v2, ha2, hk2, hf2⟩ := h2
 have HA2 := Lib.hid ha2
 have HB2 := Lib.hid (HB1.out.trans (hk2.below (B := w.heap.size) HB1.out.size (fun k hk => by rcases hk with rfl | hk; exact Nat.le_refl _; cases hk)))
 clear ha2 hk2 hf2
 go_wp2_with fail
 refine (enc_done _ _ _ _ _ HA2.out (by omega)).mono ?_
 rintro en w3 ⟨ao, cap, rfl, hr⟩
 have HB3 := Lib.hid (HB2.out.trans (hr.2.1.mono HB2.out.size))
 have HI3 := Lib.hid (owns_at hr.1).2.1
 have H3 := Lib.hid (H.out.below HB3.out)
 obtain ⟨k0, k1, k0f, k1f⟩ := H3.out.cells
 have HO3 := Lib.hid H3.out.2.1
 have hp3 := blk_lt H3.out.1
 clear hr
 generalize doneB ob oe = Z at *
 rcases HCS.out with ⟨rfl, hout⟩ | ⟨rfl, hout⟩
 all_goals
  have HOUT := Lib.hid hout
  clear hout
  have HNN := Lib.hid (fun e : ao = none => ints_none (e ▸ HI3.out))
  go_wp2_with (at_builtin; refine wpList_append_any rfl _ _ 62 rfl 5 i0 (.int .u8 0) 1 1 Tryz.underlying62 hi hz0 hz1 hz2 rfl (by decide) v bs.length (bs.map (Value.int .u8)) rfl HO3.out ao _ cap _ rfl ?c1 (fun e => HNN.out e) (src_ints HI3.out) (ints_one _ _) ?c5 ?c6 ?_)
  case c1 => simp
  case c5 => unfold maxLen; simp; omega
  case c6 => simp; omega
  intro ao' cap' w4 hown hgrow hat hnn
  have hne := H3.out.2.2
  have k4 : w4.cell? ⟨p, 0, none⟩ = some v := (hgrow.cell_far _ hp3 (Ne.symm hne)).trans k0
  have k4f : w4.frozen? ⟨p, 0, none⟩ = false := (hgrow.frozen_far _ hp3 (Ne.symm hne)).trans k0f
  have k41 : w4.cell? ⟨p, 1, none⟩ = some (.bool bad) := (hgrow.cell_far _ hp3 (Ne.symm hne)).trans k1
  have k41f : w4.frozen? ⟨p, 1, none⟩ = false := (hgrow.frozen_far _ hp3 (Ne.symm hne)).trans k1f
  have hp := buf_app (zs := Z) H3.out (Keeps.refl _ _) (by rw [List.map_append]; exact hown) hgrow (fun g hg => (hat g hg).imp id (fun e => by omega))
  obtain ⟨v5, h5, k5, f5⟩ := hp
  have HQ := Lib.hid (fun y => BufPost.trans ((Keeps.of_below (S := fpE p v) HB3.out).trans k5 (fun i hi => Or.inl hi)) (fun g hg => (f5 g hg).imp id (fun h => by have := HB3.out.size; omega)) (buf_set h5 y))
  clear h5 k5 f5 hown hgrow hat hnn k0 k1 k0f k1f
  cases bad
  all_goals
   go_wp2
   go_end0
   refine ⟨rfl, ?_⟩
   rw [HOUT.out]
   exact HQ.out _
structure EV where
 k : Int
 f : Int
 t : Int
 a : Int
 n : Int
 i : Int
 d : Int
 h : ByteArray
 s : ByteArray
def EV.num (e : EV) : Nat → Int
 | 1 => e.f
 | 2 => e.t
 | 3 => e.a
 | 4 => e.n
 | 5 => e.i
 | 6 => e.d
 | _ => e.k
def EV.setN (e : EV) (x : Int) : Nat → EV
 | 1 => { e with f := x }
 | 2 => { e with t := x }
 | 3 => { e with a := x }
 | 4 => { e with n := x }
 | 5 => { e with i := x }
 | 6 => { e with d := x }
 | _ => { e with k := x }
def EV.txt (e : EV) (j : Nat) : ByteArray := if j = 7 then e.h else e.s
def EV.setT (e : EV) (x : ByteArray) (j : Nat) : EV := if j = 7 then { e with h := x } else { e with s := x }
def EV.cells (e : EV) : Array Value := #[.int .i64 e.k, .int .i64 e.f, .int .i64 e.t, .int .i64 e.a, .int .i64 e.n, .int .i64 e.i, .int .i64 e.d, .string e.h, .string e.s]
theorem EV.cell_num (e : EV) (j : Nat) (hj : j ≤ 6) : e.cells[j]? = some (.int .i64 (e.num j)) := by
 match j, hj with
 | 0, _ => rfl
 | 1, _ => rfl
 | 2, _ => rfl
 | 3, _ => rfl
 | 4, _ => rfl
 | 5, _ => rfl
 | 6, _ => rfl
theorem EV.cell_txt (e : EV) (j : Nat) (hj : j = 7 ∨ j = 8) : e.cells[j]? = some (.string (e.txt j)) := by
 rcases hj with rfl | rfl <;> rfl
theorem EV.set_num (e : EV) (x : Int) (j : Nat) (hj : j ≤ 6) : e.cells.setIfInBounds j (.int .i64 x) = (e.setN x j).cells := by
 match j, hj with
 | 0, _ => rfl
 | 1, _ => rfl
 | 2, _ => rfl
 | 3, _ => rfl
 | 4, _ => rfl
 | 5, _ => rfl
 | 6, _ => rfl
theorem EV.set_txt (e : EV) (x : ByteArray) (j : Nat) (hj : j = 7 ∨ j = 8) : e.cells.setIfInBounds j (.string x) = (e.setT x j).cells := by
 rcases hj with rfl | rfl <;> rfl
def numSign (c : Int) : Option (Nat × Int) :=
 if c = 102 then some (1, 1) else if c = 116 then some (2, 1) else if c = 97 then some (3, 1) else if c = 110 then some (4, 8) else if c = 105 then some (5, 2) else if c = 100 then some (6, 8) else none
def txtSign (c : Int) : Nat := if c = 104 then 7 else 8
theorem numSign_in {c : Int} {j : Nat} {z : Int} (h : numSign c = some (j, z)) : 1 ≤ j ∧ j ≤ 6 ∧ 1 ≤ z ∧ z ≤ 8 := by
 unfold numSign at h
 repeat' split at h
 all_goals simp only [Option.some.injEq, Prod.mk.injEq, reduceCtorEq] at h
 all_goals omega
theorem txtSign_in (c : Int) : txtSign c = 7 ∨ txtSign c = 8 := by unfold txtSign; split <;> simp
def hasN (k : Int) (ev : Bool) : List Int :=
 if k = 1 then (if ev then [102, 116, 97, 110] else [116, 97, 110]) else if k = 2 then (if ev then [102, 116, 97, 110, 105, 104, 100] else [116, 97, 110, 104, 100]) else if k = 3 then [105, 115] else if k = 4 then [105] else []
def bytesOf (l : List Int) : ByteArray := ⟨(l.map fun z => UInt8.ofNat z.toNat).toArray⟩
set_option maxHeartbeats 1000000 in
theorem has_any (k : Int) (ev : Bool) (w : World) :
 Calls Tryz.prog 72 #[.int .i64 k, .bool ev] w fun e w' => e = .returned (.string (bytesOf (hasN k ev))) ∧ w = w' := by
 by_cases h1 : k = 1
 · subst h1
   cases ev
   all_goals
    go_enter Tryz.func72, Tryz.ntmps72
    go_wp2
    go_ret
    exact ⟨rfl, rfl⟩
 · by_cases h2 : k = 2
   · subst h2
     cases ev
     all_goals
      go_enter Tryz.func72, Tryz.ntmps72
      go_wp2
      go_ret
      exact ⟨rfl, rfl⟩
   · by_cases h3 : k = 3
     · subst h3
       go_enter Tryz.func72, Tryz.ntmps72
       go_wp2
       all_goals
        go_ret
        exact ⟨rfl, rfl⟩
     · by_cases h4 : k = 4
       · subst h4
         go_enter Tryz.func72, Tryz.ntmps72
         go_wp2
         all_goals
          go_ret
          exact ⟨rfl, rfl⟩
       · have b1 : (k == 1) = false := by simp [h1]
         have b2 : (k == 2) = false := by simp [h2]
         have b3 : (k == 3) = false := by simp [h3]
         have b4 : (k == 4) = false := by simp [h4]
         have HH := Lib.hid (show bytesOf (hasN k ev) = ⟨#[]⟩ by simp [hasN, h1, h2, h3, h4, bytesOf])
         clear h1 h2 h3 h4
         go_enter Tryz.func72, Tryz.ntmps72
         go_wp2
         all_goals
          go_ret
          rw [HH.out]
          exact ⟨rfl, rfl⟩
set_option maxHeartbeats 1000000 in
theorem number_num (R : Nat) (c : Int) (j : Nat) (z : Int) (w : World) (hR : R < w.heap.size) (hc : numSign c = some (j, z)) :
 Calls Tryz.prog 105 #[.pointer (some ⟨R, 0, none⟩), .int .i32 c] w fun e w' => e = .returned (.tuple #[.pointer (some ⟨R, j, none⟩), .int .i64 z]) ∧ w = w' := by
 have hx : (c = 102 ∧ j = 1 ∧ z = 1) ∨ (c = 116 ∧ j = 2 ∧ z = 1) ∨ (c = 97 ∧ j = 3 ∧ z = 1) ∨ (c = 110 ∧ j = 4 ∧ z = 8) ∨ (c = 105 ∧ j = 5 ∧ z = 2) ∨ (c = 100 ∧ j = 6 ∧ z = 8) := by
  unfold numSign at hc
  repeat' split at hc
  all_goals simp only [Option.some.injEq, Prod.mk.injEq, reduceCtorEq] at hc
  all_goals omega
 clear hc
 rcases hx with ⟨rfl, rfl, rfl⟩ | ⟨rfl, rfl, rfl⟩ | ⟨rfl, rfl, rfl⟩ | ⟨rfl, rfl, rfl⟩ | ⟨rfl, rfl, rfl⟩ | ⟨rfl, rfl, rfl⟩
 all_goals
  go_enter Tryz.func105, Tryz.ntmps105
  go_wp2
  go_ret2
  exact ⟨rfl, rfl⟩
set_option maxHeartbeats 1000000 in
theorem number_txt (R : Nat) (c : Int) (w : World) (hc : numSign c = none) :
 Calls Tryz.prog 105 #[.pointer (some ⟨R, 0, none⟩), .int .i32 c] w fun e w' => e = .returned (.tuple #[.pointer none, .int .i64 32]) ∧ w = w' := by
 have hx : ¬ c = 102 ∧ ¬ c = 116 ∧ ¬ c = 97 ∧ ¬ c = 110 ∧ ¬ c = 105 ∧ ¬ c = 100 := by
  unfold numSign at hc
  repeat' split at hc
  all_goals simp only [reduceCtorEq] at hc
  all_goals omega
 obtain ⟨h1, h2, h3, h4, h5, h6⟩ := hx
 have b1 : (c == 102) = false := by simp [h1]
 have b2 : (c == 116) = false := by simp [h2]
 have b3 : (c == 97) = false := by simp [h3]
 have b4 : (c == 110) = false := by simp [h4]
 have b5 : (c == 105) = false := by simp [h5]
 have b6 : (c == 100) = false := by simp [h6]
 clear hc h1 h2 h3 h4 h5 h6
 go_enter Tryz.func105, Tryz.ntmps105
 go_wp2
 go_ret2
 exact ⟨rfl, rfl⟩
set_option maxHeartbeats 1000000 in
theorem text_any (R : Nat) (c : Int) (w : World) :
 Calls Tryz.prog 106 #[.pointer (some ⟨R, 0, none⟩), .int .i32 c] w fun e w' => e = .returned (.pointer (some ⟨R, txtSign c, none⟩)) ∧ w = w' := by
 by_cases hc : c = 104
 · subst hc
   go_enter Tryz.func106, Tryz.ntmps106
   go_wp2
   go_ret
   exact ⟨rfl, rfl⟩
 · have b1 : (c == 104) = false := by simp [hc]
   have HT := Lib.hid (show txtSign c = 8 by simp [txtSign, hc])
   clear hc
   go_enter Tryz.func106, Tryz.ntmps106
   go_wp2
   go_ret
   rw [HT.out]
   exact ⟨rfl, rfl⟩
def outEnd (st : List Int × Bool) : List Int × Int := if st.2 = true then ([], 1) else (st.1, 0)
theorem buf_form {T : TypeId} {w : World} {p : Nat} {v : Value} {bs : List Int} {x : Value} (h : BufAt T w p v bs x) : ∃ ao cap, v = .slice ao bs.length cap := by
 rcases h.2.1.2 with ⟨hv, hn⟩ | ⟨g, cap, cur, hv, _⟩
 · exact ⟨none, 0, by rw [hv, hn]⟩
 · exact ⟨_, cap, hv⟩
set_option maxHeartbeats 1000000 in
theorem out_done (p : Nat) (v : Value) (bs : List Int) (bad : Bool) (w : World) (h : BufAt 147 w p v bs (.bool bad)) :
 Calls Tryz.prog 73 #[.pointer (some ⟨p, 0, none⟩)] w fun en w' => (∃ ao cap, en = .returned (.tuple #[.slice ao (outEnd (bs, bad)).1.length cap, .int .i64 (outEnd (bs, bad)).2]) ∧ (.slice ao (outEnd (bs, bad)).1.length cap = v ∨ (outEnd (bs, bad)).1 = [] ∧ ao = none ∧ cap = 0)) ∧ w = w' := by
 obtain ⟨ao, cap, rfl⟩ := buf_form h
 obtain ⟨k0, k1, _, _⟩ := h.cells
 clear h
 cases bad
 · go_enter Tryz.func73, Tryz.ntmps73
   go_wp2
   go_ret2
   exact ⟨⟨ao, cap, rfl, Or.inl rfl⟩, rfl⟩
 · go_enter Tryz.func73, Tryz.ntmps73
   go_wp2
   go_ret2
   exact ⟨⟨none, 0, rfl, Or.inr ⟨rfl, rfl, rfl⟩⟩, rfl⟩
structure RQ where
 k : Int
 t : Int
 a : Int
 n : Int
 i : Int
 d : Int
 h : ByteArray
 s : ByteArray
def RQ.cells (r : RQ) : Array Value := #[.int .i64 r.k, .int .i64 r.t, .int .i64 r.a, .int .i64 r.n, .int .i64 r.i, .int .i64 r.d, .string r.h, .string r.s]
def RQ.ev (r : RQ) : EV := ⟨r.k, 0, r.t, r.a, r.n, r.i, r.d, r.h, r.s⟩
set_option maxRecDepth 100000 in
set_option maxHeartbeats 1000000 in
theorem req_event (r : RQ) (w : World) :
 Calls Tryz.prog 96 #[.agg r.cells] w fun e w' => e = .returned (.agg r.ev.cells) ∧ Below w.heap.size w w' := by
 unfold RQ.cells
 go_enter Tryz.func96, Tryz.ntmps96
 go_wp2
 refine bodyPost_ret (v := .agg #[.int .i64 r.k, .int .i64 0, .int .i64 r.t, .int .i64 r.a, .int .i64 r.n, .int .i64 r.i, .int .i64 r.d, .string r.h, .string r.s]) (by simp [results, Tryz.results96, go_sem]) rfl ⟨rfl, ((Below.refl _ _).alloc (Nat.le_refl _) _).alloc (by simp) _⟩
end Go.Proofs.YtkaciaehlibidaaGreat
