/- NumEdges is true for every input, and its arguments read behind the call as before; no condition. -/
import Derived.Test.YtnohdbhkepdjbaaPlain1
namespace Go.Proofs.Ytnohdbhkepdjbaa
open Go.ChangeShapes Go.WideShapes Go.ChangeAt Go.RowKit
set_option linter.unusedVariables false


theorem Try_infoInt : (Try.prog.info? 3).map (fun i => (i.zero, i.size, i.bytes)) = some (some (.int .i64 0), 1, 8) := by kernel_rfl

theorem sum_replicate (a : Int) (n : Nat) : (List.replicate n a).sum = a * n := by
  induction n with
  | zero => simp
  | succ n ih => rw [List.replicate_succ, List.sum_cons, ih]; rw [show ((n + 1 : Nat) : Int) = (n : Int) + 1 by omega, Int.mul_add, Int.mul_one]; omega
theorem mul_sum (a : Int) (n : Nat) (ha : amtB a = true) (hn : n ≤ 50) : sumV (List.replicate n a) = mulV a n ∧ sumE (List.replicate n a) = mulE a n := by
  have hb : amtB (n : Int) = true := (amt_iff _).2 ⟨by omega, by unfold MA; omega⟩
  have hA := (amt_iff a).1 ha
  have h0 : 0 ≤ a * (n : Int) := Int.mul_nonneg hA.1 (by omega)
  have hg : goodB 0 (List.replicate n a) = mulOK a n := by
    rw [Bool.eq_iff_iff, good_iff, mulOK_iff a n ha hb, sum_replicate]
    constructor
    · intro h; have := h.2; unfold MA at this; exact this
    · intro h
      refine ⟨?_, by unfold MA; exact h⟩
      rw [List.all_eq_true]; intro x hx; rw [(List.mem_replicate.1 hx).2]; exact ha
  cases hk : mulOK a n
  · rw [hk] at hg
    rw [(sumVE' _ hg).1, (sumVE' _ hg).2, (mulVE' _ _ hk).1, (mulVE' _ _ hk).2]; exact ⟨rfl, rfl⟩
  · rw [hk] at hg
    rw [(sumVE _ hg).1, (sumVE _ hg).2, (mulVE _ _ hk).1, (mulVE _ _ hk).2, sum_replicate]; exact ⟨rfl, rfl⟩

theorem owns_ints {w : World} {base : Nat} {e : TypeId} {v : Value} {n : Nat} {zs : List Int} (h : w.ownsRow base e 1 v n (zs.map (Value.int .i64))) :
    ∃ ao cap, v = .slice ao n cap ∧ zs.length = n ∧ IntsAt .i64 w ao zs := by
  have hl := h.1
  simp at hl
  rcases h.2 with ⟨rfl, rfl⟩ | ⟨g, cap, cur, rfl, _, hh, hn, _, hs, ht⟩
  · exact ⟨none, 0, rfl, hl, Or.inl (List.length_eq_zero_iff.1 hl)⟩
  · refine ⟨_, cap, rfl, hl, Or.inr ⟨g, 0, rfl, fun i hi => ?_⟩⟩
    have := h.cells (g := g) rfl i (.int .i64 (zs.getD i 0)) (by simp [List.getD, hi])
    rwa [addr_add] at this

set_option maxHeartbeats 1600000 in
theorem walk_numEdges (a : Int) (w0 : (Lit.int .i64 a).wf = true) (b : Int) (w1 : (Lit.int .i64 b).wf = true) (W : World) :
    Calls Try.prog 7 #[.int .i64 a, .int .i64 b] W fun e w' => e = .returned (.bool true) ∧ Below W.heap.size W w' := by
  have hb0 := Below.refl W.heap.size W
  clear w0 w1
  by_cases ha : amtB a = true
  · by_cases h1 : b < 0
    · go_enter Try.func7, Try.ntmps7
      go_wp2_with (first | (go_at_call 14; refine (first1 W _ (by assumption)).mono ?_; rintro e w1 ⟨rfl, hb⟩) | (go_at_call 23; refine (amount_any _ _).mono ?_; rintro e w' ⟨rfl, rfl⟩))
      all_goals go_ret
      all_goals exact ⟨ret_bool (by first | rfl | (simp; omega)), by assumption⟩
    · obtain ⟨n, rfl⟩ := Int.eq_ofNat_of_zero_le (Int.not_lt.1 h1)
      by_cases h2 : (50 : Int) < (n : Int)
      · go_enter Try.func7, Try.ntmps7
        go_wp2_with (first | (go_at_call 14; refine (first1 W _ (by assumption)).mono ?_; rintro e w1 ⟨rfl, hb⟩) | (go_at_call 23; refine (amount_any _ _).mono ?_; rintro e w' ⟨rfl, rfl⟩))
        all_goals go_ret
        all_goals exact ⟨ret_bool (by first | rfl | (simp; omega)), by assumption⟩
      · obtain ⟨i0, hi, hz0, hz1, hz2⟩ := info_parts Try_infoInt
        have HM := Lib.hid (mul_sum a n ha (by omega))
        clear h1
        go_enter Try.func7, Try.ntmps7
        go_wp2_with (first | (go_at_call 14; refine (first1 W _ (by assumption)).mono ?_; rintro e w1 ⟨rfl, hb⟩) | (go_at_call 23; refine (amount_any _ _).mono ?_; rintro e w' ⟨rfl, rfl⟩))
        go_loopw [13, 14] (fun v i wr => ∃ k : Nat, k ≤ n ∧ i = .int .i64 k ∧ wr.ownsRow W.heap.size 3 1 v k ((List.replicate k a).map (Value.int .i64)) ∧ Below W.heap.size W wr) (fun _ i _ => n - (intOf i).toNat)
        case atStart => exact ⟨0, Nat.zero_le _, rfl, World.ownsRow_nil _ _ _ _, by assumption⟩
        case round =>
          obtain ⟨k, hk, rfl, hown, hbl⟩ := hrel
          by_cases hlt : k < n
          · go_wp2_with (at_builtin; refine wpList_append_own _ rfl _ _ 22 rfl W.heap.size 3 i0 (.int .i64 0) 1 8 Try.underlying22 hi hz0 hz1 hz2 rfl (by decide) _ _ _ rfl (hown.alloc _) ⟨wr.heap.size, 0, none⟩ 1 1 [.int .i64 a] rfl rfl ?c1 ?c2 ?c3 ?c4 ?c5 ?_)
            case c1 =>
              intro j u hj
              match j, hj with
              | 0, hj => simp at hj; subst hj; simp [Addr.add]
            case c2 => intro u hu; simp at hu; subst hu; rfl
            case c3 => unfold maxLen; omega
            case c4 => omega
            case c5 => have := hbl.size; simp; omega
            intro v' w1 hown' hgrow _
            have hbl' : Below W.heap.size W w1 := (hbl.alloc hbl.size _).grown hgrow (by have := hbl.size; simp; omega) (fun k' hk' => (hown.lt k' hk').1)
            clear hgrow hown hbl
            go_wp2
            go_roundw
            case rel => exact ⟨k + 1, by omega, by go_num, by simpa [List.replicate_succ', List.map_append] using hown', hbl'⟩
            case measure => simp [intOf]; omega
          · obtain rfl : k = n := by omega
            obtain ⟨ao, cap, rfl, hl, hat⟩ := owns_ints hown
            have HL := Lib.hid hl
            have HA := Lib.hid hat
            clear hown hlt hk hl hat
            obtain ⟨m1, m2⟩ := HM.out
            go_wp2_with (first | (go_at_call 14; refine (first1 W _ (by assumption)).mono ?_; rintro e w1 ⟨rfl, hb⟩) | (go_at_call 25; refine (mul_any _ _ _).mono ?_; rintro e w' ⟨rfl, rfl⟩) | (go_at_call 15; refine (sum_len ao _ _ _ _ HL.out HA.out (by omega)).mono ?_; rintro e w' ⟨rfl, rfl⟩))
            all_goals go_ret
            all_goals exact ⟨ret_bool (by first | rfl | simp), by assumption⟩
  · simp at ha
    have e1 : addE a b = 1 := (addVE' a b (by simp [addOK, bothB, ha])).2
    have e2 : subE a b = 1 := (subVE' a b (by simp [subOK, bothB, ha])).2
    have e3 : mulE a b = 1 := (mulVE' a b (by simp [mulOK, bothB, ha])).2
    have e4 : sumE [a] = 1 := (sumVE' [a] (by simp [goodB, ha])).2
    have HS := Lib.hid (fun w : World => sum_len (some ⟨w.heap.size, 0, none⟩) [a] 1 1 (w.alloc (.cells #[.int .i64 a] 3)) rfl (Or.inr ⟨_, _, rfl, fun i hi => by match i, hi with | 0, _ => simp⟩) (by decide))
    have hb0' := hb0.size
    go_enter Try.func7, Try.ntmps7
    go_wp2_with (first | (go_at_call 14; refine (first1 W _ (by assumption)).mono ?_; rintro e w1 ⟨rfl, hb⟩) | (go_at_call 23; refine (amount_any _ _).mono ?_; rintro e w' ⟨rfl, rfl⟩) | (go_at_call 16; refine (add_any _ _ _).mono ?_; rintro e w' ⟨rfl, rfl⟩) | (go_at_call 24; refine (sub_any _ _ _).mono ?_; rintro e w' ⟨rfl, rfl⟩) | (go_at_call 25; refine (mul_any _ _ _).mono ?_; rintro e w' ⟨rfl, rfl⟩))
    refine (HS.out _).mono ?_; rintro e w' ⟨rfl, rfl⟩
    have hb2 := hb.alloc hb.size (.cells #[.int .i64 a] 3)
    go_wp2_with (first | (go_at_call 14; refine (first1 W _ (by assumption)).mono ?_; rintro e w1 ⟨rfl, hb⟩))
    all_goals go_ret
    all_goals exact ⟨ret_bool (by first | rfl | (simp; omega)), by assumption⟩

/-! ### The row's step for NumEdges: the frame. -/
theorem numEdges_own : ownKnob Try.prog.godebug = none := by kernel_rfl
theorem numEdges_laidOut : laidOutB Try.prog = true := by kernel_rfl
set_option maxRecDepth 100000 in
theorem numEdges_lifted (os : Os) (started : os.Started) (H : Type) (enc : TypeId × Value → H) :
    ReturnsInHanded {} Try.checked os 7 .any (Rows.numEdgesSpec.pre6 enc Try.prog Try.f7 Rows.numEdgesRow.domain false) (Rows.numEdgesSpec.post enc Try.prog Try.f7 false true false false) := by
  refine returnsInHanded_of_change (C := Try.checked) numEdges_own started (by kernel_rfl) Try.func7
    (ChangeSpec.witness6 (enc := enc) (C := Try.checked) false ⟨#[], #[.int .i64 0, .int .i64 0], []⟩ 8 (by kernel_rfl) (by kernel_rfl) (by kernel_rfl) (by kernel_rfl)) ?_
  intro W base args ds gs before hval0 hW hcnd _
  have hval : ∀ (j : Nat) t v, Try.f7.params[j]? = some t → args[j]? = some v → Value.okWide Try.prog W .any base t v := hval0
  have hW' := hW
  obtain ⟨p, q, hA0, hV, rfl, hfz, hnd⟩ := hW
  have hA : DataW.TrodAll enc Try.prog W 0 (fun _ => true) true Try.f7.params.toList args.toList ds p := hA0
  rw [Try.params7] at hA hval
  obtain ⟨v0, vs0, d0, ds0, p0, q0, hargs, rfl, rfl, h0, r0⟩ := trodAll_cons hA
  obtain ⟨v1, vs1, d1, ds1, p1, q1, rfl, rfl, rfl, h1, r1⟩ := trodAll_cons r0
  obtain ⟨rfl, rfl, rfl⟩ := trodAll_nil r1
  obtain rfl : args = #[v0, v1] := by cases args; simp_all
  obtain ⟨rfl, rfl⟩ := trodVars_none hV
  have k0 := h0
  have lt0 : ∀ x ∈ p0, x.block < W.heap.size := by obtain ⟨m, hm⟩ := k0; exact DataW.trod_lt m _ _ _ hm
  obtain ⟨a0, rfl, rfl, rfl, w0⟩ := open_int Try.underlying3 (hval 0 3 v0 rfl rfl) h0
  have k1 := h1
  have lt1 : ∀ x ∈ p1, x.block < W.heap.size := by obtain ⟨m, hm⟩ := k1; exact DataW.trod_lt m _ _ _ hm
  obtain ⟨a1, rfl, rfl, rfl, w1⟩ := open_int Try.underlying3 (hval 1 3 v1 rfl rfl) h1
  clear hA0 hval0
  refine (walk_numEdges a0 w0 a1 w1 W).mono fun e W' ⟨he, bel⟩ => ?_
  subst he
  exact ⟨_, rfl, _, _, _, [], _, [], hW', trodAll_mk1 (shut_bool Try.underlying4 _), (trodAll_cons_mk (Below.trod numEdges_laidOut (by kernel_rfl) (of_decide_eq_true (by kernel_rfl)) k0 bel lt0) (trodAll_cons_mk (Below.trod numEdges_laidOut (by kernel_rfl) (of_decide_eq_true (by kernel_rfl)) k1 bel lt1) trodAll_mk0)), rfl, bel.frame _, fun h => by cases h⟩

theorem numEdges_over : Rows.numEdgesRow.holds Try.pinned (OpenSpec.ofChange Rows.numEdgesSpec) :=
  OpenClaim.holds_of_wide 7 Try.f7 rfl rfl rfl rfl rfl rfl rfl ⟨rfl, rfl, rfl, rfl, rfl⟩ rfl rfl rfl rfl rfl (by kernel_rfl) Try.func7 (by kernel_rfl)
    (of_decide_eq_true (by kernel_rfl)) (by unfold Func.isWrapper; first | (rw [if_pos (by decide +kernel)]; kernel_rfl) | (rw [if_neg (by decide +kernel)]; exact ⟨rfl, rfl⟩))
    (fun os started H enc _ => numEdges_lifted os started H enc)

/-- The statement. -/
theorem numEdges_holds : Rows.NumEdgesSaid := numEdges_over
#print axioms numEdges_holds
end Go.Proofs.Ytnohdbhkepdjbaa
