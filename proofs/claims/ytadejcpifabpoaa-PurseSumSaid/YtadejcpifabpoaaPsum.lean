/- PurseSum is true for every input, and its arguments read behind the call as before; no condition. -/
import Derived.Test.YtadejcpifabpoaaPur7
import Derived.Laws.BitsLemmas
namespace Go.Proofs.Ytadejcpifabpoaa
open Go.ChangeShapes Go.WideShapes Go.ChangeAt Go.RowKit
set_option linter.unusedVariables false

theorem i64_and1 (n : Int) : bits .and .i64 n 1 = n % 2 := by
  have h1 : (BitVec.ofInt 64 1).toNat = 2 ^ 1 - 1 := by decide
  have key : (BitVec.ofInt 64 n &&& BitVec.ofInt 64 1).toNat = (n % ((2 ^ 64 : Nat) : Int)).toNat % 2 ^ 1 := by
    rw [BitVec.toNat_and, BitVec.toNat_ofInt, h1, Nat.and_two_pow_sub_one_eq_mod]
  show IntKind.i64.wrap ((BitVec.ofInt 64 n &&& BitVec.ofInt 64 1).toNat : Nat) = n % 2
  rw [key, IntKind.wrap_i64]
  omega

def sumRows (h : Nat) : List ISl := rows2 h 4611686018427387804 0
theorem world2_eq (w1 : World) (a b : Int) : ((w1.alloc (.cells #[.int .i64 a] 3)).alloc (.cells #[.int .i64 b] 3)).alloc (.cells #[.slice (some ⟨w1.heap.size, 0, none⟩) 1 1, .slice (some ⟨w1.heap.size + 1, 0, none⟩) 1 1] 31) = world2 w1 a b := rfl
theorem sumRows_may (h : Nat) : mayF (sumRows h) = true := by kernel_rfl
theorem sumRows_tot (h : Nat) : tot (balOf (sumRows h)) 0 2 = 4611686018427387804 := by kernel_rfl
def badRows (h : Nat) : List ISl := rows2 h 4611686018427387904 1
theorem badRows_may (h : Nat) : mayF (badRows h) = false := by kernel_rfl
theorem totB_0 (b : Nat → Nat → Int) : totB 2 1 b 0 = tot b 0 2 := by simp [totB, partB]
theorem sum_take {b : Nat → Nat → Int} (h : Good 2 1 b) (x : Int) (hx : 0 ≤ x ∧ x ≤ 1000) : tot (takeN 2 1 b 0 0 x) 0 2 = if takeE 2 1 b 0 0 x = 0 then tot b 0 2 - x else tot b 0 2 := by
  split
  · rename_i hE
    rw [show takeN 2 1 b 0 0 x = upd b 0 0 (b 0 0 - x) by simp [takeN, hE], tot_upd (by omega)]; omega
  · rename_i hE
    rw [show takeN 2 1 b 0 0 x = b by simp [takeN, hE]]
theorem sum_give {b : Nat → Nat → Int} (h : Good 2 1 b) (a x : Int) (ha : a = 0 ∨ a = 1) (hx : 0 ≤ x ∧ x ≤ 1000) : (giveE 2 1 b a 0 x = 0 ↔ x ≤ 4611686018427387904 - tot b 0 2) ∧ tot (giveN 2 1 b a 0 x) 0 2 = if giveE 2 1 b a 0 x = 0 then tot b 0 2 + x else tot b 0 2 := by
  have hh : hasB 2 1 a 0 = true := by rcases ha with rfl | rfl <;> decide
  have h0 : 0 ≤ tot b 0 2 := tot_nonneg (fun i hi => h.pos i hi 0 (by omega))
  have hm := h.sum 0 (by omega)
  have ho : giveOK 2 1 b a 0 x = true ↔ x ≤ 4611686018427387904 - tot b 0 2 := by
    simp only [giveOK, hh, Bool.true_and, addOK, bothB, Bool.and_eq_true, amt_iff, totB_0]
    unfold MA; omega
  refine ⟨?_, ?_⟩
  · rw [← ho]; unfold giveE; split <;> simp_all
  · by_cases hc : giveOK 2 1 b a 0 x = true
    · rw [show giveE 2 1 b a 0 x = 0 by simp [giveE, hc], if_pos rfl, show giveN 2 1 b a 0 x = upd b a.toNat 0 (b a.toNat 0 + x) by simp [giveN, hc], tot_upd (by omega)]; omega
    · rw [show giveE 2 1 b a 0 x = 1 by simp [giveE, hc], if_neg (by omega), show giveN 2 1 b a 0 x = b by simp [giveN, hc]]

set_option maxRecDepth 100000 in
set_option maxHeartbeats 4000000 in
theorem walk_purseSum (W : World) (ao : Option Addr) (zs : List Int) (cap : Nat) (hz : IntsAt .i64 W ao zs) (hc : zs.length ≤ cap) (hw : cap ≤ maxLen ∧ ∀ n ∈ zs, (Lit.int .i64 n).wf = true) :
    Calls Try.prog 7 #[.slice ao zs.length cap] W fun e w' => e = .returned (.bool true) ∧ Below W.heap.size W w' := by
  have hb0 := Lib.hid (Below.refl W.heap.size W)
  have HZ := Lib.hid hz
  obtain ⟨n, hn⟩ : ∃ n, n = zs.length := ⟨_, rfl⟩
  rw [← hn]
  have HN := Lib.hid hn.symm
  clear hz hc hw hn
  have HNEW := fun w1 : World => Lib.hid (new_yes (some ⟨w1.heap.size + 2, 0, none⟩) (sumRows w1.heap.size) 2 2 1 (world2 w1 4611686018427387804 0) rfl (world2_rows w1 _ _ (by decide) (by decide)) (sumRows_may _) rfl)
  have HBAD := fun w1 : World => Lib.hid (new_no (some ⟨w1.heap.size + 2, 0, none⟩) (badRows w1.heap.size) 2 2 (world2 w1 4611686018427387904 1) rfl (world2_rows w1 _ _ (by decide) (by decide)) (badRows_may _))
  have HWB := Lib.hid (fun (w1 : World) (a b : Int) => world2_below w1 a b)
  go_enter Try.func7, Try.ntmps7
  go_wp2_with fail
  refine (first9 W _ hb0.out).mono ?_
  rintro e w1 ⟨rfl, hb1⟩
  have HB1 := Lib.hid hb1
  have HNW := HNEW w1
  clear hb1 HNEW
  go_wp2_with fail
  rw [world2_eq]
  refine HNW.out.mono ?_
  rintro e w2 ⟨q, rfl, hq⟩
  have HL := Lib.hid (LP.new hq (HB1.out.trans ((HWB.out w1 _ _).mono HB1.out.size)))
  have HG := Lib.hid (show Good 2 1 (balOf (sumRows w1.heap.size)) from (mayF_good (sumRows_may w1.heap.size)).1)
  have HT := Lib.hid (sumRows_tot w1.heap.size)
  clear hq HNW
  generalize balOf (sumRows w1.heap.size) = B at *
  by_cases h100 : n ≤ 100
  · have i100 : ¬ (100 : Int) < (n : Int) := by omega
    go_wp2_with fail
    go_loopw [5, 6] (fun t i wr => ∃ k : Nat, ∃ b, k ≤ n ∧ i = .int .i64 k ∧ t = .int .i64 (tot b 0 2) ∧ (∃ S, LP 75 W wr S q 2 1 b) ∧ Good 2 1 b) (fun _ i _ => n - (intOf i).toNat)
    case atStart => exact ⟨0, B, Nat.zero_le _, rfl, by rw [HT.out], ⟨_, HL.out⟩, HG.out⟩
    case round =>
      obtain ⟨k, b, hk, rfl, rfl, ⟨S, hl⟩, hgb⟩ := hrel
      have HLB := Lib.hid hl
      have HGB := Lib.hid hgb
      have HBW := Lib.hid hl.base
      have t1 := hgb.sum 0 (by omega)
      have t0 : 0 ≤ tot b 0 2 := tot_nonneg (fun i hi => hgb.pos i hi 0 (by omega))
      by_cases hlt : k < n
      · have hkb : k < zs.length := by rw [HN.out]; exact hlt
        obtain ⟨zb, zoff, rfl, hcell⟩ : ∃ zb zoff, ao = some ⟨zb, zoff, none⟩ ∧ wr.cell? ⟨zb, zoff + k, none⟩ = some (.int .i64 zs[k]) := by
          rcases HZ.out.same (w' := wr) (fun a ha hl' => hl.base.block _ hl') with h | ⟨zb, zoff, h1, h2⟩
          · rw [h] at hkb; simp at hkb
          · exact ⟨zb, zoff, h1, by rw [h2 k hkb]; simp [List.getD, hkb]⟩
        generalize zs[k] = x at *
        have j0 : (0 : Int) ≤ (k : Int) := by omega
        have j1 : (k : Int) < (n : Int) := by omega
        have HAND := Lib.hid (i64_and1 (k : Int))
        clear hl hgb
        by_cases hx : 0 ≤ x ∧ x ≤ 1000
        · obtain ⟨hx0, hx1⟩ := hx
          by_cases hmod : (k : Int) % 3 = 2
          · have HS := Lib.hid (sum_take HGB.out x ⟨hx0, hx1⟩)
            have hm3 : (((k : Int) % 3) == 2) = true := by simp [hmod]
            obtain ⟨E, hE⟩ : ∃ E, E = takeE 2 1 b 0 0 x := ⟨_, rfl⟩
            have HE := Lib.hid hE.symm
            have HTO := Lib.hid (show E = 0 → x ≤ tot b 0 2 from fun h => by
              have := take_ok (hE ▸ h); have := HGB.out.cell (a := 0) (j := 0) (by omega) (by omega); simp at *; omega)
            rw [← hE] at HS
            have HGT := Lib.hid (HGB.out.take 0 0 x)
            clear hE hmod
            generalize tot b 0 2 = T at *
            by_cases h0 : E = 0
            · subst h0
              have hxt := HTO.out rfl
              have HS2 : Hid (tot (takeN 2 1 b 0 0 x) 0 2 = T - x) := Lib.hid (by have := HS.out; simpa using this)
              have HTT := Lib.hid (totB_0 (takeN 2 1 b 0 0 x))
              clear HS
              go_wp2_with fail
              refine (HLB.out.take HGB.out 0 0 x).mono ?_
              rintro e w3 ⟨rfl, hl3⟩
              rw [HE.out]
              have HL3 := Lib.hid hl3
              clear hl3
              go_wp2_with fail
              refine (HL3.out.total HGT.out 0).mono ?_
              rintro e w4 ⟨rfl, rfl⟩
              rw [HTT.out, HS2.out]
              go_wp2
              go_roundw
              case rel => exact ⟨k + 1, _, by omega, by go_num, by rw [HS2.out], ⟨_, HL3.out⟩, HGT.out⟩
              case measure => simp [intOf]; omega
            · have hE0 : (E == 0) = false := by simpa using h0
              have HS2 : Hid (tot (takeN 2 1 b 0 0 x) 0 2 = T) := Lib.hid (by have := HS.out; simpa [h0] using this)
              have HTT := Lib.hid (totB_0 (takeN 2 1 b 0 0 x))
              clear HS h0
              go_wp2_with fail
              refine (HLB.out.take HGB.out 0 0 x).mono ?_
              rintro e w3 ⟨rfl, hl3⟩
              rw [HE.out]
              have HL3 := Lib.hid hl3
              clear hl3
              go_wp2_with fail
              refine (HL3.out.total HGT.out 0).mono ?_
              rintro e w4 ⟨rfl, rfl⟩
              rw [HTT.out, HS2.out]
              go_wp2
              go_roundw
              case rel => exact ⟨k + 1, _, by omega, by go_num, by rw [HS2.out], ⟨_, HL3.out⟩, HGT.out⟩
              case measure => simp [intOf]; omega
          · have hm3 : (((k : Int) % 3) == 2) = false := by simp [hmod]
            have hA : (k : Int) % 2 = 0 ∨ (k : Int) % 2 = 1 := by omega
            have HS := Lib.hid (sum_give HGB.out ((k : Int) % 2) x hA ⟨hx0, hx1⟩)
            have HGT := Lib.hid (HGB.out.give ((k : Int) % 2) 0 x)
            have HTT := Lib.hid (totB_0 (giveN 2 1 b ((k : Int) % 2) 0 x))
            obtain ⟨E, hE⟩ : ∃ E, E = giveE 2 1 b ((k : Int) % 2) 0 x := ⟨_, rfl⟩
            have HE := Lib.hid hE.symm
            rw [← hE] at HS
            clear hE hmod hA
            generalize tot b 0 2 = T at *
            by_cases h0 : E = 0
            · subst h0
              have hle : x ≤ 4611686018427387904 - T := HS.out.1.1 rfl
              have HS2 : Hid (tot (giveN 2 1 b ((k : Int) % 2) 0 x) 0 2 = T + x) := Lib.hid (by have := HS.out.2; simpa using this)
              have hle2 : T + x ≤ 4611686018427387904 := by omega
              clear HS
              go_wp2_with fail
              rw [HAND.out]
              refine (HLB.out.give HGB.out _ 0 x).mono ?_
              rintro e w3 ⟨rfl, hl3⟩
              rw [HE.out]
              have HL3 := Lib.hid hl3
              clear hl3
              go_wp2_with fail
              refine (HL3.out.total HGT.out 0).mono ?_
              rintro e w4 ⟨rfl, rfl⟩
              rw [HTT.out, HS2.out]
              go_wp2
              go_roundw
              case rel => exact ⟨k + 1, _, by omega, by go_num, by rw [HS2.out], ⟨_, HL3.out⟩, HGT.out⟩
              case measure => simp [intOf]; omega
            · have hE0 : (E == 0) = false := by simpa using h0
              have hle : ¬ x ≤ 4611686018427387904 - T := fun h => h0 (HS.out.1.2 h)
              have HS2 : Hid (tot (giveN 2 1 b ((k : Int) % 2) 0 x) 0 2 = T) := Lib.hid (by have := HS.out.2; simpa [h0] using this)
              clear HS h0
              go_wp2_with fail
              rw [HAND.out]
              refine (HLB.out.give HGB.out _ 0 x).mono ?_
              rintro e w3 ⟨rfl, hl3⟩
              rw [HE.out]
              have HL3 := Lib.hid hl3
              clear hl3
              go_wp2_with fail
              refine (HL3.out.total HGT.out 0).mono ?_
              rintro e w4 ⟨rfl, rfl⟩
              rw [HTT.out, HS2.out]
              go_wp2
              go_roundw
              case rel => exact ⟨k + 1, _, by omega, by go_num, by rw [HS2.out], ⟨_, HL3.out⟩, HGT.out⟩
              case measure => simp [intOf]; omega
        · have hx' : x < 0 ∨ (¬ x < 0 ∧ 1000 < x) := by omega
          clear hx
          rcases hx' with hx | ⟨hx, hx2⟩
          all_goals
            go_wp2_with fail
            refine (first9 W _ HBW.out).mono ?_
            rintro e w3 ⟨rfl, hb3⟩
            have HB3 := Lib.hid hb3
            clear hb3
            go_wp2
            go_ret
            exact ⟨rfl, HB3.out⟩
      · obtain rfl : k = n := by omega
        have HBD := HBAD wr
        clear hlt hl hgb HBAD
        go_wp2_with fail
        rw [world2_eq]
        refine HBD.out.mono ?_
        rintro e w3 ⟨rfl, hb3⟩
        have HB3 := Lib.hid ((HBW.out.trans ((HWB.out wr _ _).mono HBW.out.size)).trans (hb3.mono (HBW.out.trans ((HWB.out wr 4611686018427387904 1).mono HBW.out.size)).size))
        clear hb3 HBD
        go_wp2_with fail
        refine (first9 W _ HB3.out).mono ?_
        rintro e w4 ⟨rfl, hb4⟩
        have HB4 := Lib.hid hb4
        clear hb4
        go_wp2
        go_ret
        exact ⟨rfl, HB4.out⟩
  · have i100 : (100 : Int) < (n : Int) := by omega
    go_wp2_with fail
    refine (first9 W _ HL.out.base).mono ?_
    rintro e w3 ⟨rfl, hb3⟩
    have HB3 := Lib.hid hb3
    clear hb3
    go_wp2
    go_ret
    exact ⟨rfl, HB3.out⟩

/-! ### The row's step for PurseSum: the frame. -/
theorem purseSum_own : ownKnob Try.prog.godebug = none := by kernel_rfl
theorem purseSum_laidOut : laidOutB Try.prog = true := by kernel_rfl
set_option maxRecDepth 100000 in
theorem purseSum_lifted (os : Os) (started : os.Started) (H : Type) (enc : TypeId × Value → H) :
    ReturnsInHanded {} Try.checked os 7 .any (Rows.purseSumSpec.pre6 enc Try.prog Try.f7 Rows.purseSumRow.domain false) (Rows.purseSumSpec.post enc Try.prog Try.f7 false true false false) := by
  refine returnsInHanded_of_change (C := Try.checked) purseSum_own started (by kernel_rfl) Try.func7
    (ChangeSpec.witness6 (enc := enc) (C := Try.checked) false ⟨#[], #[.slice none 0 0], []⟩ 8 (by kernel_rfl) (by kernel_rfl) (by kernel_rfl) (by kernel_rfl)) ?_
  intro W base args ds gs before hval0 hW hcnd _
  have hval : ∀ (j : Nat) t v, Try.f7.params[j]? = some t → args[j]? = some v → Value.okWide Try.prog W .any base t v := hval0
  have hW' := hW
  obtain ⟨p, q, hA0, hV, rfl, hfz, hnd⟩ := hW
  have hA : DataW.TrodAll enc Try.prog W 0 (fun _ => true) true Try.f7.params.toList args.toList ds p := hA0
  rw [Try.params7] at hA hval
  obtain ⟨v0, vs0, d0, ds0, p0, q0, hargs, rfl, rfl, h0, r0⟩ := trodAll_cons hA
  obtain ⟨rfl, rfl, rfl⟩ := trodAll_nil r0
  obtain rfl : args = #[v0] := by cases args; simp_all
  obtain ⟨rfl, rfl⟩ := trodVars_none hV
  have k0 := h0
  have lt0 : ∀ x ∈ p0, x.block < W.heap.size := by obtain ⟨m, hm⟩ := k0; exact DataW.trod_lt m _ _ _ hm
  obtain ⟨ao0, len0, cap0, rfl⟩ := okWide_slice Try.underlying31 (hval 0 31 v0 rfl rfl)
  obtain ⟨z0, rfl, w0, hc0, wf0⟩ := ints_of Try.underlying31 Try.underlying3 (by kernel_rfl) h0
  clear hA0 hval0
  refine (walk_purseSum W ao0 z0 cap0 w0 hc0 wf0).mono fun e W' ⟨he, bel⟩ => ?_
  subst he
  exact ⟨_, rfl, _, _, _, [], _, [], hW', trodAll_mk1 (shut_bool Try.underlying4 _), (trodAll_cons_mk (Below.trod purseSum_laidOut (by kernel_rfl) (of_decide_eq_true (by kernel_rfl)) k0 bel lt0) trodAll_mk0), rfl, bel.frame _, fun h => by cases h⟩

theorem purseSum_over : Rows.purseSumRow.holds Try.pinned (OpenSpec.ofChange Rows.purseSumSpec) :=
  OpenClaim.holds_of_wide 7 Try.f7 rfl rfl rfl rfl rfl rfl rfl ⟨rfl, rfl, rfl, rfl, rfl⟩ rfl rfl rfl rfl rfl (by kernel_rfl) Try.func7 (by kernel_rfl)
    (of_decide_eq_true (by kernel_rfl)) (by unfold Func.isWrapper; first | (rw [if_pos (by decide +kernel)]; kernel_rfl) | (rw [if_neg (by decide +kernel)]; exact ⟨rfl, rfl⟩))
    (fun os started H enc _ => purseSum_lifted os started H enc)

/-- The statement. -/
theorem purseSum_holds : Rows.PurseSumSaid := purseSum_over
#print axioms purseSum_holds
end Go.Proofs.Ytadejcpifabpoaa
