/- Contracts of purse.may and purse.New. -/
import Derived.Test.YtbhoakohpfdeoaaGreatPur3
namespace Go.Proofs.YtbhoakohpfdeoaaGreat
open Go.RowKit
set_option linter.unusedVariables false

set_option maxHeartbeats 1000000 in
theorem may1_any (x : Option Addr) (nx cx m B b off n cap c0 : Nat) (a0 : Option Addr) (w : World) (hB : w.cell? ⟨B, 0, none⟩ = some (.slice (some ⟨b, off, none⟩) n cap)) (hc : w.cell? ⟨b, off, none⟩ = some (.slice a0 m c0)) (hn : (0 : Int) < (n : Int)) :
    Calls Tryz.prog 62 #[.slice x nx cx, .pointer (some ⟨B, 0, none⟩)] w fun e w' => e = .returned (.bool ((nx : Int) != (m : Int))) ∧ w = w' := by
  go_enter Tryz.func62, Tryz.ntmps62
  go_wp2
  go_ret
  exact ⟨rfl, rfl⟩

def IdxPost (bad : Bool) (w : World) (e : Ending) (w' : World) : Prop := ∃ r : Int, e = .returned (.int .i64 r) ∧ (0 ≤ r ∧ bad = true ∨ r < 0 ∧ bad = false) ∧ w = w'
def badB (bs : List ISl) (m : Nat) : Bool := bs.any (fun x => (x.zs.length : Int) != (m : Int))
theorem badB_take (bs : List ISl) (m k : Nat) (hk : k < bs.length) (h : badB (bs.take k) m = false) (hb : ((bs[k].zs.length : Int) != (m : Int)) = false) : badB (bs.take (k + 1)) m = false := by
  unfold badB at *
  rw [List.take_succ_eq_append_getElem hk, List.any_append, h]
  simp only [List.any_cons, List.any_nil, Bool.or_false, Bool.false_or]; exact hb
theorem badB_at (bs : List ISl) (m k : Nat) (hk : k < bs.length) (hb : ((bs[k].zs.length : Int) != (m : Int)) = true) : badB bs m = true := by
  unfold badB
  exact List.any_eq_true.2 ⟨bs[k], List.getElem_mem hk, hb⟩

set_option maxHeartbeats 1000000 in
theorem idx_any (ao : Option Addr) (bs : List ISl) (n cap m B b off c0 : Nat) (a0 : Option Addr) (w : World) (hn : bs.length = n) (h : IntsList w (some ⟨b, off, none⟩) bs) (hB : w.cell? ⟨B, 0, none⟩ = some (.slice (some ⟨b, off, none⟩) n cap)) (hc : w.cell? ⟨b, off, none⟩ = some (.slice a0 m c0)) (h0 : (0 : Int) < (n : Int)) (h16 : n ≤ 1000) :
    Calls Tryz.prog 72 #[.slice (some ⟨b, off, none⟩) n cap, .func (Fn.func 62) #[] #[.pointer (some ⟨B, 0, none⟩)]] w (IdxPost (badB bs m) w) := by
  have HB := Lib.hid h
  have HN := Lib.hid hn
  have HC := Lib.hid (fun (x : Option Addr) (nx cx : Nat) => may1_any x nx cx m B b off n cap c0 a0 w hB hc h0)
  clear hn h hB hc
  go_enter Tryz.func72, Tryz.ntmps72
  go_wp2_with fail
  go_loop [8] (fun i => ∃ k : Nat, k ≤ n ∧ i = .int .i64 k ∧ badB (bs.take k) m = false) (fun i => n + 1 - (intOf i + 1).toNat)
  case atStart => exact ⟨0, Nat.zero_le _, rfl, rfl⟩
  case round =>
    obtain ⟨k, hk, rfl, hbad⟩ := hrel
    by_cases hlt : k < n
    · have hkb : k < bs.length := by rw [HN.out]; exact hlt
      obtain ⟨b', off', he, hcell⟩ := il_cell HB.out k hkb
      simp only [Option.some.injEq, Addr.mk.injEq, and_true] at he
      obtain ⟨rfl, rfl⟩ := he
      have HT := Lib.hid (badB_take bs m k hkb hbad)
      have HA := Lib.hid (badB_at bs m k hkb)
      clear hbad
      generalize bs[k] = x at *
      cases hq : ((x.zs.length : Int) != (m : Int))
      · have HQ := Lib.hid hq
        clear hq
        go_wp2_with (go_at_call 62; refine (HC.out _ _ _).mono ?_; rintro e w' ⟨rfl, rfl⟩; rw [HQ.out])
        go_round
        case rel => exact ⟨k + 1, by omega, by go_num, HT.out HQ.out⟩
        case measure => simp [intOf]; omega
      · have HQ := Lib.hid hq
        clear hq
        go_wp2_with (go_at_call 62; refine (HC.out _ _ _).mono ?_; rintro e w' ⟨rfl, rfl⟩; rw [HQ.out])
        go_ret
        exact ⟨k, rfl, Or.inl ⟨by omega, HA.out HQ.out⟩, rfl⟩
    · obtain rfl : k = n := by omega
      have HX := Lib.hid (show badB bs m = false by rw [List.take_of_length_le (by rw [HN.out]; exact Nat.le_refl _)] at hbad; exact hbad)
      clear hbad hlt
      go_wp2
      go_ret
      exact ⟨-1, rfl, Or.inr ⟨by omega, HX.out⟩, rfl⟩

set_option maxHeartbeats 1000000 in
theorem contains_any (ao : Option Addr) (bs : List ISl) (n cap m B b off c0 : Nat) (a0 : Option Addr) (w : World) (hn : bs.length = n) (h : IntsList w (some ⟨b, off, none⟩) bs) (hB : w.cell? ⟨B, 0, none⟩ = some (.slice (some ⟨b, off, none⟩) n cap)) (hc : w.cell? ⟨b, off, none⟩ = some (.slice a0 m c0)) (h0 : (0 : Int) < (n : Int)) (h16 : n ≤ 1000) :
    Calls Tryz.prog 61 #[.slice (some ⟨b, off, none⟩) n cap, .func (Fn.func 62) #[] #[.pointer (some ⟨B, 0, none⟩)]] w fun e w' => e = .returned (.bool (badB bs m)) ∧ w = w' := by
  have HC := Lib.hid (idx_any ao bs n cap m B b off c0 a0 w hn h hB hc h0 h16)
  clear hn h hB hc
  go_enter Tryz.func61, Tryz.ntmps61
  go_wp2_with fail
  refine HC.out.mono ?_
  rintro e w' ⟨r, rfl, hr, rfl⟩
  rcases hr with ⟨h1, h2⟩ | ⟨h1, h2⟩
  all_goals
    have HB := Lib.hid h2
    clear h2
    go_wp2
    go_ret
    exact ⟨ret_bool (by rw [HB.out] <;> first | (rw [decide_eq_true_iff]; exact h1) | (rw [decide_eq_false_iff_not]; omega)), rfl⟩

/-! What may says. -/
def colOf (bs : List ISl) (j : Nat) : List Int := bs.map (fun x => x.zs.getD j 0)
def colsB (bs : List ISl) (m : Nat) : Bool := (List.range m).all fun j => sumE (colOf bs j) == 0
def mayF (bs : List ISl) : Bool :=
  decide (2 ≤ bs.length ∧ bs.length ≤ 16) && decide (1 ≤ (bs.getD 0 default).zs.length ∧ (bs.getD 0 default).zs.length ≤ 4) && !badB bs (bs.getD 0 default).zs.length && colsB bs (bs.getD 0 default).zs.length
theorem colOf_take (bs : List ISl) (j k : Nat) (hk : k < bs.length) : (colOf bs j).take (k + 1) = (colOf bs j).take k ++ [bs[k].zs.getD j 0] := by
  rw [List.take_succ_eq_append_getElem (by simpa [colOf] using hk)]; simp [colOf]
theorem badB_len {bs : List ISl} {m : Nat} (h : badB bs m = false) : ∀ i (hi : i < bs.length), bs[i].zs.length = m := fun i hi => by
  unfold badB at h
  rw [List.any_eq_false] at h
  have := h bs[i] (List.getElem_mem hi)
  simp at this; omega
theorem sum_tot (bs : List ISl) (j : Nat) (h : sumE (colOf bs j) = 0) : ∀ k, k ≤ bs.length → sumF ((colOf bs j).take k) = (tot (balOf bs) j k, 0) ∧ (∀ i, i < k → 0 ≤ balOf bs i j) ∧ tot (balOf bs) j k ≤ 4611686018427387904 := by
  intro k
  induction k with
  | zero => intro _; exact ⟨rfl, fun i hi => by omega, by simp [tot]⟩
  | succ k ih =>
    intro hk
    obtain ⟨h1, h2, h3⟩ := ih (by omega)
    have e : (bs[k]'(by omega)).zs.getD j 0 = balOf bs k j := by simp [balOf, List.getD, show k < bs.length by omega]
    have hs : sumE ((colOf bs j).take (k + 1)) = 0 := Decidable.byContradiction fun hne => by
      have := sum_stop (colOf bs j) (k + 1) hne
      unfold sumE at hne h
      rw [this] at h; exact hne h
    rw [colOf_take bs j k (by omega), e] at hs ⊢
    unfold sumE at hs
    rw [sumF_snoc, h1] at hs ⊢
    simp only [sumStep, if_true] at hs ⊢
    have hok : addOK (tot (balOf bs) j k) (balOf bs k j) = true := Decidable.byContradiction fun hne => by
      simp [addE, hne] at hs
    obtain ⟨a1, a2⟩ := addVE _ _ hok
    rw [a1, a2]
    simp only [addOK, bothB, Bool.and_eq_true, amt_iff] at hok
    unfold MA at hok
    refine ⟨rfl, fun i hi => ?_, by rw [tot]; omega⟩
    by_cases e' : i = k
    · subst e'; omega
    · exact h2 i (by omega)
theorem mayF_good {bs : List ISl} (h : mayF bs = true) : Good bs.length (bs.getD 0 default).zs.length (balOf bs) ∧ ∀ i (hi : i < bs.length), bs[i].zs.length = (bs.getD 0 default).zs.length := by
  simp only [mayF, Bool.and_eq_true, decide_eq_true_eq, Bool.not_eq_true'] at h
  obtain ⟨⟨⟨⟨h1, h2⟩, h3, h4⟩, h5⟩, h6⟩ := h
  have hc : ∀ j, j < (bs.getD 0 default).zs.length → sumE (colOf bs j) = 0 := fun j hj => by
    have := List.all_eq_true.1 h6 j (List.mem_range.2 hj)
    simpa using this
  refine ⟨⟨h1, h2, h3, h4, fun i hi j hj => (sum_tot bs j (hc j hj) _ (Nat.le_refl _)).2.1 i hi, fun j hj => (sum_tot bs j (hc j hj) _ (Nat.le_refl _)).2.2⟩, badB_len h5⟩

/-- A row of ints of the call's own. -/
def RowAtI (w0 : World) (v : Value) (zs : List Int) (w : World) : Prop :=
  w.ownsRow 0 3 1 v zs.length (zs.map (Value.int .i64)) ∧ Below w0.heap.size w0 w ∧ (∀ g, v.ownBlock = some g → w0.heap.size ≤ g)
theorem rowI_nil (w0 w : World) (h : Below w0.heap.size w0 w) : RowAtI w0 (.slice none 0 0) [] w := ⟨World.ownsRow_nil _ _ _ _, h, fun g hg => by cases hg⟩
theorem rowI_step {w0 wr wa w1 : World} {v v' : Value} {zs : List Int} {z : Int} (h : RowAtI w0 v zs wr) (ha : Below w0.heap.size wr wa) (hown : w1.ownsRow 0 3 1 v' (zs.length + 1) (zs.map (Value.int .i64) ++ [.int .i64 z])) (hg : wa.grownBy w1 v.ownBlock) (hat : ∀ g, v'.ownBlock = some g → v.ownBlock = some g ∨ g = wa.heap.size) : RowAtI w0 v' (zs ++ [z]) w1 := by
  obtain ⟨h1, h2, h3⟩ := h
  have hs := h2.size
  have hs2 := ha.size
  refine ⟨by simpa using hown, (h2.trans ha).grown hg (by omega) h3, fun g hg' => ?_⟩
  rcases hat g hg' with e | e
  · exact h3 g e
  · omega
theorem rowI_done {w0 w : World} {v : Value} {zs : List Int} {n : Nat} (h : RowAtI w0 v zs w) (hn : zs.length = n) : ∃ ao cap, v = .slice ao n cap ∧ IntsAt .i64 w ao zs := by
  subst hn
  have h' := h.1
  have hf : ∃ ao cap, v = .slice ao zs.length cap := by
    rcases h'.2 with ⟨hv, hn⟩ | ⟨g, cap, cur, hv, _⟩
    · exact ⟨none, 0, by rw [hv, hn]⟩
    · exact ⟨_, cap, hv⟩
  obtain ⟨ao, cap, rfl⟩ := hf
  exact ⟨ao, cap, rfl, (owns_at h').2.1⟩

/-- The columns so far are fine. -/
def ColsTo (bs : List ISl) (k : Nat) : Prop := ∀ j, j < k → sumE (colOf bs j) = 0

set_option maxRecDepth 100000 in
set_option maxHeartbeats 4000000 in
theorem may_any (ao : Option Addr) (bs : List ISl) (n cap : Nat) (w : World) (hn : bs.length = n) (h : IntsList w ao bs) :
    Calls Tryz.prog 50 #[.slice ao n cap] w fun e w' => e = .returned (.bool (mayF bs)) ∧ Below w.heap.size w w' := by
  have HN := Lib.hid hn
  have HB := Lib.hid h
  by_cases h2 : (n : Int) < 2
  · have HF := Lib.hid (show mayF bs = false by simp [mayF, hn]; omega)
    clear h hn
    go_enter Tryz.func50, Tryz.ntmps50
    go_wp2
    go_ret
    exact ⟨ret_bool HF.out.symm, (Below.refl _ _).alloc (Nat.le_refl _) _⟩
  by_cases h16 : (16 : Int) < (n : Int)
  · have HF := Lib.hid (show mayF bs = false by simp [mayF, hn]; omega)
    clear h hn
    go_enter Tryz.func50, Tryz.ntmps50
    go_wp2
    go_ret
    exact ⟨ret_bool HF.out.symm, (Below.refl _ _).alloc (Nat.le_refl _) _⟩
  have h0b : 0 < bs.length := by omega
  obtain ⟨b, off, rfl, hc0⟩ := il_cell h 0 h0b
  have hbl := World.block_lt_of_cell? w _ hc0
  have hcw : ∀ w', Below w.heap.size w w' → w'.cell? ⟨b, off + 0, none⟩ = some (.slice bs[0].ao bs[0].zs.length bs[0].cap) := fun w' hb => (hb.cell (p := ⟨b, off + 0, none⟩) hbl).trans hc0
  rw [Nat.add_zero] at hcw
  have hx0 : bs.getD 0 default = bs[0] := by simp [List.getD, h0b]
  have HFX : Hid (mayF bs = (decide (1 ≤ bs[0].zs.length ∧ bs[0].zs.length ≤ 4) && !badB bs bs[0].zs.length && colsB bs bs[0].zs.length)) := Lib.hid (by
    unfold mayF; rw [hx0, hn]
    have : (2 ≤ n ∧ n ≤ 16) := by omega
    simp [this])
  generalize hbx : bs[0] = x0 at *
  have HX0 := Lib.hid hbx
  have a1 := hcw (w.alloc (.cells #[.slice (some ⟨b, off, none⟩) n cap] 22)) ((Below.refl _ _).alloc (Nat.le_refl _) _)
  have HCW := Lib.hid hcw
  have i0 : (0 : Int) < (n : Int) := by omega
  clear hcw hc0 hx0 hbx h
  by_cases h1 : (x0.zs.length : Int) < 1
  · have HF := Lib.hid (show mayF bs = false by rw [HFX.out]; simp; omega)
    clear hn
    go_enter Tryz.func50, Tryz.ntmps50
    go_wp2
    go_ret
    exact ⟨ret_bool HF.out.symm, (Below.refl _ _).alloc (Nat.le_refl _) _⟩
  by_cases h4 : (4 : Int) < (x0.zs.length : Int)
  · have HF := Lib.hid (show mayF bs = false by rw [HFX.out]; simp; omega)
    clear hn
    go_enter Tryz.func50, Tryz.ntmps50
    go_wp2
    go_ret
    exact ⟨ret_bool HF.out.symm, (Below.refl _ _).alloc (Nat.le_refl _) _⟩
  have HW1 := Lib.hid (show Below w.heap.size w (w.alloc (.cells #[.slice (some ⟨b, off, none⟩) n cap] 22)) from (Below.refl _ _).alloc (Nat.le_refl _) _)
  have HCON := Lib.hid (contains_any none bs n cap x0.zs.length w.heap.size b off x0.cap x0.ao (w.alloc (.cells #[.slice (some ⟨b, off, none⟩) n cap] 22)) hn (HB.out.below HW1.out) (by simp) a1 i0 (by omega))
  have HFY : Hid (mayF bs = (!badB bs x0.zs.length && colsB bs x0.zs.length)) := Lib.hid (by
    rw [HFX.out]
    have : (1 ≤ x0.zs.length ∧ x0.zs.length ≤ 4) := by omega
    simp [this])
  clear hn HFX
  cases hbad : badB bs x0.zs.length
  · have HL := Lib.hid (badB_len hbad)
    have HBAD := Lib.hid hbad
    have HFZ : Hid (mayF bs = colsB bs x0.zs.length) := Lib.hid (by rw [HFY.out, hbad]; rfl)
    clear hbad HFY
    generalize hm : x0.zs.length = m at *
    clear hm
    have k0 : (w.alloc (.cells #[.slice (some ⟨b, off, none⟩) n cap] 22)).cell? ⟨w.heap.size, 0, none⟩ = some (.slice (some ⟨b, off, none⟩) n cap) := by simp
    have hsz : w.heap.size < (w.alloc (.cells #[.slice (some ⟨b, off, none⟩) n cap] 22)).heap.size := by simp
    go_enter Tryz.func50, Tryz.ntmps50
    go_wp2_with fail
    generalize w.alloc (.cells #[.slice (some ⟨b, off, none⟩) n cap] 22) = wA at *
    have K0 := Lib.hid k0
    refine HCON.out.mono ?_
    rintro e w' ⟨rfl, rfl⟩
    rw [HBAD.out]
    go_wp2_with fail
    go_loopw [38] (fun i wr => ∃ k : Nat, k ≤ m ∧ i = .int .i64 k ∧ ColsTo bs k ∧ Below wA.heap.size wA wr) (fun i _ => m + 1 - (intOf i + 1).toNat)
    case atStart => exact ⟨0, Nat.zero_le _, rfl, fun j hj => by omega, Below.refl _ _⟩
    case round =>
      obtain ⟨k, hk, rfl, hcols, hbel⟩ := hrel
      have HCOLS := Lib.hid hcols
      have HW := Lib.hid hbel
      have c0 : wr.cell? ⟨w.heap.size, 0, none⟩ = some (.slice (some ⟨b, off, none⟩) n cap) := (hbel.cell (p := ⟨w.heap.size, 0, none⟩) hsz).trans K0.out
      clear hcols hbel
      by_cases hlt : k < m
      · obtain ⟨wo, rfl⟩ : ∃ wo : World, wo = wr := ⟨_, rfl⟩
        go_wp2_with fail
        go_loopw [4, 43] (fun v i wr => ∃ q : Nat, q ≤ n ∧ i = .int .i64 q ∧ RowAtI wA v ((colOf bs k).take q) wr) (fun _ i _ => n + 1 - (intOf i + 1).toNat)
        case atStart => exact ⟨0, Nat.zero_le _, rfl, rowI_nil _ _ HW.out⟩
        case round =>
          obtain ⟨q, hq, rfl, hrow⟩ := hrel
          have HROW := Lib.hid hrow
          have HO := Lib.hid hrow.1
          have HBW := Lib.hid (HW1.out.trans (hrow.2.1.mono HW1.out.size))
          have HLEN : Hid (((colOf bs k).take q).length = q) := Lib.hid (by simp [colOf, HN.out]; omega)
          clear hrow
          by_cases hql : q < n
          · have hqb : q < bs.length := by rw [HN.out]; exact hql
            obtain ⟨b', off', he, hcell⟩ := il_cell (HB.out.below HBW.out) q hqb
            simp only [Option.some.injEq, Addr.mk.injEq, and_true] at he
            obtain ⟨rfl, rfl⟩ := he
            have hin := (il_ok (HB.out.below HBW.out) q hqb).1
            have hxl := HL.out q hqb
            have HCT := Lib.hid (colOf_take bs k q hqb)
            rw [hxl] at hcell
            generalize bs[q] = x at *
            obtain ⟨xb, xoff, hxa, hxc⟩ : ∃ xb xoff, x.ao = some ⟨xb, xoff, none⟩ ∧ wr.cell? ⟨xb, xoff + k, none⟩ = some (.int .i64 (x.zs.getD k 0)) := by
              rcases hin with h | ⟨xb, xoff, h1, h2⟩
              · rw [h] at hxl; simp at hxl; omega
              · exact ⟨xb, xoff, h1, h2 k (by omega)⟩
            rw [hxa] at hcell
            generalize x.zs.getD k 0 = z at *
            clear hin hxl hxa
            have HLE := Lib.hid HLEN.out
            generalize (colOf bs k).take q = zs at *
            obtain ⟨i0', hi, hz0, hz1, hz2⟩ := info_parts Try_infoI64
            go_wp2_with (at_builtin; refine wpList_append_any rfl _ _ 54 rfl 3 i0' (.int .i64 0) 1 8 Tryz.underlying54 hi hz0 hz1 hz2 rfl (by decide) u4 zs.length (zs.map (Value.int .i64)) rfl (HO.out.alloc _) (some ⟨wr.heap.size, 0, none⟩) 1 1 [.int .i64 z] rfl rfl ?c2 ?c3 ?c4 ?c5 ?c6 ?_)
            case c2 => intro e; cases e
            case c3 => intro ad had; cases had; exact World.news_of_block (heap_alloc_new _ _)
            case c4 => simp [Value.oneCell']
            case c5 => have := HLE.out; unfold maxLen; omega
            case c6 => have := HLE.out; omega
            intro ao' cap' w3 hown hgrow hat hnn
            have HR := Lib.hid (rowI_step (z := z) HROW.out ((Below.refl _ _).alloc HROW.out.2.1.size _) hown hgrow (fun g hg => by simpa using hat g hg))
            clear hown hgrow hat hnn
            go_wp2
            go_roundw
            case rel => exact ⟨q + 1, by omega, by go_num, by rw [HCT.out]; exact HR.out⟩
            case measure => simp [intOf]; omega
          · obtain rfl : q = n := by omega
            have HTK : Hid ((colOf bs k).take q = colOf bs k) := Lib.hid (List.take_of_length_le (by simp [colOf, HN.out]))
            rw [HTK.out] at HROW HLEN
            obtain ⟨ao', cap', rfl, hints⟩ := rowI_done HROW.out HLEN.out
            have HS := Lib.hid (by have := sum_any ao' (colOf bs k) cap' wr hints (by rw [HLEN.out]; omega); rw [HLEN.out] at this; exact this)
            have HBX := Lib.hid HROW.out.2.1
            clear hql hints HROW HO HTK
            by_cases hs : sumE (colOf bs k) = 0
            · have HSE := Lib.hid hs
              clear hs
              go_wp2_with (go_at_call 63; refine HS.out.mono ?_; rintro e w' ⟨rfl, rfl⟩; rw [HSE.out])
              go_roundw
              case rel => exact ⟨k + 1, by omega, by go_num, fun j hj => by
                by_cases e : j = k
                · rw [e]; exact HSE.out
                · exact HCOLS.out j (by omega), HBX.out⟩
              case measure => simp [intOf]; omega
            · have HSE : Hid (sumE (colOf bs k) = 1) := Lib.hid (by rcases sumF_bad (colOf bs k) with h | h; exact absurd h hs; exact h.1)
              have HF : Hid (colsB bs m = false) := Lib.hid (by
                rw [← Bool.not_eq_true]
                intro h
                have := List.all_eq_true.1 h k (List.mem_range.2 hlt)
                rw [HSE.out] at this; simp at this)
              clear hs
              go_wp2_with (go_at_call 63; refine HS.out.mono ?_; rintro e w' ⟨rfl, rfl⟩; rw [HSE.out])
              go_ret
              exact ⟨ret_bool (by rw [HFZ.out, HF.out]), HBW.out⟩
      · obtain rfl : k = m := by omega
        have HF : Hid (colsB bs k = true) := Lib.hid (by
          unfold colsB
          rw [List.all_eq_true]
          intro j hj
          rw [HCOLS.out j (List.mem_range.1 hj)]; rfl)
        have HBW := Lib.hid (HW1.out.trans (HW.out.mono HW1.out.size))
        clear hlt
        go_wp2
        go_ret
        exact ⟨ret_bool (by rw [HFZ.out, HF.out]), HBW.out⟩
  · have HF : Hid (mayF bs = false) := Lib.hid (by rw [HFY.out, hbad]; rfl)
    have HBAD := Lib.hid hbad
    clear hbad HFY
    go_enter Tryz.func50, Tryz.ntmps50
    go_wp2_with fail
    generalize w.alloc (.cells #[.slice (some ⟨b, off, none⟩) n cap] 22) = wA at *
    refine HCON.out.mono ?_
    rintro e w' ⟨rfl, rfl⟩
    rw [HBAD.out]
    go_wp2
    go_ret
    exact ⟨ret_bool HF.out.symm, HW1.out⟩

end Go.Proofs.YtbhoakohpfdeoaaGreat
