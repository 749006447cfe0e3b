/- WireOrder is true for every input, and its arguments read behind the call as before; no condition. -/
import Derived.Test.YtnohdbhkepdjbaaLaw4
namespace Go.Proofs.Ytnohdbhkepdjbaa
open Go.ChangeShapes Go.WideShapes Go.ChangeAt Go.RowKit
set_option linter.unusedVariables false

def ordF : List Int → List Int → Int
  | x :: xs, y :: ys => if x - y = 0 then ordF xs ys else x - y
  | _, _ => 0
theorem ordF_drop (xs ys : List Int) (k : Nat) (hx : k < xs.length) (hy : k < ys.length) : ordF (xs.drop k) (ys.drop k) = if xs[k] - ys[k] = 0 then ordF (xs.drop (k + 1)) (ys.drop (k + 1)) else xs[k] - ys[k] := by
  rw [List.drop_eq_getElem_cons hx, List.drop_eq_getElem_cons hy, ordF]
theorem byteAt_eq (n : Int) (s : Nat) (h0 : 0 ≤ n) : byteAt n s = n / 2 ^ (8 * s) % 256 := by
  unfold byteAt; rw [IntKind.wrap_u8]
theorem byteAt_in (n : Int) (s : Nat) : 0 ≤ byteAt n s ∧ byteAt n s ≤ 255 := by
  unfold byteAt; rw [IntKind.wrap_u8]; omega
theorem putB_in (n : Int) (s : Nat) : InB (putB n s) := by
  induction s with
  | zero => intro z hz; cases hz
  | succ s ih =>
    intro z hz
    rcases List.mem_cons.1 hz with rfl | h
    · exact byteAt_in n s
    · exact ih z h
theorem nat_mod_mul (n m : Nat) : (n : Int) % ((m : Int) * 256) = (n : Int) % m + m * ((n : Int) / m % 256) := by
  have h := congrArg (fun x : Nat => (x : Int)) (Nat.mod_mul (a := m) (b := 256) (x := n))
  simp only [Int.natCast_add, Int.natCast_mul, Int.natCast_emod, Int.natCast_ediv] at h
  exact h
theorem ord_put (s : Nat) (a b : Int) (ha : 0 ≤ a) (hb : 0 ≤ b) (ha2 : a / 2 ^ (8 * s) = 0) (hb2 : b / 2 ^ (8 * s) = 0) : (ordF (putB a s) (putB b s) < 0 ↔ a < b) ∧ (ordF (putB a s) (putB b s) = 0 ↔ a = b) := by
  suffices h : ∀ s : Nat, (ordF (putB a s) (putB b s) < 0 ↔ a % 2 ^ (8 * s) < b % 2 ^ (8 * s)) ∧ (ordF (putB a s) (putB b s) = 0 ↔ a % 2 ^ (8 * s) = b % 2 ^ (8 * s)) by
    have e1 : a % 2 ^ (8 * s) = a := by have := Int.mul_ediv_add_emod a (2 ^ (8 * s)); rw [ha2] at this; omega
    have e2 : b % 2 ^ (8 * s) = b := by have := Int.mul_ediv_add_emod b (2 ^ (8 * s)); rw [hb2] at this; omega
    have := h s
    rwa [e1, e2] at this
  intro s
  induction s with
  | zero => simp [putB, ordF, Int.emod_one]
  | succ s ih =>
    have hp : (0 : Int) < 2 ^ (8 * s) := Int.pow_pos (by decide)
    have key : ∀ n : Int, 0 ≤ n → n % 2 ^ (8 * (s + 1)) = n % 2 ^ (8 * s) + 2 ^ (8 * s) * byteAt n s := by
      intro n hn
      rw [byteAt_eq n s hn, show 8 * (s + 1) = 8 * s + 8 by omega, Int.pow_add, show (2 : Int) ^ 8 = 256 by decide]
      obtain ⟨n', rfl⟩ := Int.eq_ofNat_of_zero_le hn
      have hp2 : (2 : Int) ^ (8 * s) = ((2 ^ (8 * s) : Nat) : Int) := by rw [Int.natCast_pow]; rfl
      rw [hp2]
      exact nat_mod_mul n' _
    have ka := key a ha
    have kb := key b hb
    have ra : 0 ≤ a % 2 ^ (8 * s) := Int.emod_nonneg _ (by omega)
    have rb : 0 ≤ b % 2 ^ (8 * s) := Int.emod_nonneg _ (by omega)
    have ra2 : a % 2 ^ (8 * s) < 2 ^ (8 * s) := Int.emod_lt_of_pos _ hp
    have rb2 : b % 2 ^ (8 * s) < 2 ^ (8 * s) := Int.emod_lt_of_pos _ hp
    simp only [putB, ordF]
    by_cases h : byteAt a s - byteAt b s = 0
    · rw [if_pos h, ih.1, ih.2]
      have e : byteAt a s = byteAt b s := by omega
      rw [ka, kb, e]
      constructor <;> constructor <;> intro hh <;> omega
    · rw [if_neg h, ka, kb]
      generalize byteAt a s = x at *
      generalize byteAt b s = y at *
      generalize (2 : Int) ^ (8 * s) = m at *
      generalize a % m = r at *
      generalize b % m = t at *
      rcases Int.lt_or_gt_of_ne (show x ≠ y by omega) with hxy | hxy
      · have : m * (y - x) ≥ m := by
          have := Int.mul_le_mul_of_nonneg_left (show (1 : Int) ≤ y - x by omega) (show 0 ≤ m by omega)
          omega
        have e : m * (y - x) = m * y - m * x := Int.mul_sub m y x
        constructor <;> constructor <;> intro hh <;> omega
      · have : m * (x - y) ≥ m := by
          have := Int.mul_le_mul_of_nonneg_left (show (1 : Int) ≤ x - y by omega) (show 0 ≤ m by omega)
          omega
        have e : m * (x - y) = m * x - m * y := Int.mul_sub m x y
        constructor <;> constructor <;> intro hh <;> omega

/-- Behind both Done calls: what is known. -/
theorem walk_wireOrder (a : Int) (w0 : (Lit.int .i64 a).wf = true) (b : Int) (w1 : (Lit.int .i64 b).wf = true) (size : Int) (w2 : (Lit.int .i64 size).wf = true) (W : World) :
    Calls Try.prog 5 #[.int .i64 a, .int .i64 b, .int .i64 size] W fun e w' => e = .returned (.bool true) ∧ Below W.heap.size W w' := by
  have hb0 := Lib.hid (Below.refl W.heap.size W)
  clear w0 w1 w2
  go_enter Try.func5, Try.ntmps5
  go_wp2_with fail
  refine (first4 W _ hb0.out).mono ?_
  rintro e w1 ⟨rfl, hb1⟩
  have hs1 := hb1.size
  go_wp2_with fail
  refine (newEnc _).mono ?_
  rintro e w2 ⟨rfl, hw2⟩
  have hx := enc_new w1 66
  rw [← hw2] at hx
  have hb2 : Below W.heap.size W w2 := by rw [hw2]; exact hb1.alloc hb1.size _
  have hs2 : w2.heap.size = w1.heap.size + 1 := by rw [hw2]; simp
  clear hw2
  have HX := Lib.hid hx
  have HS2 := Lib.hid hs2
  clear hx hs2
  go_wp2_with fail
  refine (newEnc _).mono ?_
  rintro e w3 ⟨rfl, hw3⟩
  have hs2 := HS2.out
  have hy := enc_new w2 66
  rw [← hw3] at hy
  have hx : EncAt 66 w3 w1.heap.size (.slice none 0 0) [] 0 := by rw [hw3]; exact HX.out.keep ((Keeps.refl (fun _ => False) _).alloc _) (fun _ _ f => f)
  have hb3 : Below W.heap.size W w3 := by rw [hw3]; exact hb2.alloc hb2.size _
  have hs3 : w3.heap.size = w2.heap.size + 1 := by rw [hw3]; simp
  have HN := Lib.hid (enc_num w1.heap.size _ [] 0 a size w3 hx (by decide))
  have HY := Lib.hid hy
  have HS3 := Lib.hid hs3
  have HQ1 : w1.heap.size < w2.heap.size := by omega
  have HQ2 : w2.heap.size < w3.heap.size := by omega
  clear hw3 HX hs2 hx hy hs3
  go_wp2_with fail
  refine HN.out.mono ?_
  rintro e w4 ⟨rfl, v4, hx4, hk4, hf4⟩
  have hy4 := HY.out.keep hk4 (fun k hk hS => by
    rcases hk with rfl | hk
    · rcases hS with h | h
      · omega
      · cases h
    · cases hk)
  have hb4 : Below W.heap.size W w4 := hb3.trans (hk4.below hb3.size (fun k hk => by rcases hk with rfl | hk; exact hb1.size; cases hk))
  have hq4 : w3.heap.size ≤ w4.heap.size := hk4.size
  have hf4' : ∀ g, v4.ownBlock = some g → w3.heap.size ≤ g := fun g hg => (hf4 g hg).elim (fun h => by cases h) id
  have HN2 := Lib.hid (enc_num w2.heap.size _ [] 0 b size w4 hy4 (by decide))
  have HX4 := Lib.hid hx4
  have HF4 := Lib.hid hf4'
  have HB4 := Lib.hid hb4
  clear HN HY HS2 HS3 hk4 hf4 hf4' hy4 hx4 hb3 hb2 hb4
  go_wp2_with fail
  refine HN2.out.mono ?_
  rintro e w5 ⟨rfl, v5, hy5, hk5, hf5⟩
  have hx5 := HX4.out.keep hk5 (fun k hk hS => by
    rcases hS with rfl | h
    · rcases hk with h | h
      · omega
      · have := HF4.out _ h; omega
    · cases h)
  have hb5 : Below W.heap.size W w5 := HB4.out.trans (hk5.below HB4.out.size (fun k hk => by rcases hk with rfl | hk; exact (by have := hb1.size; omega); cases hk))
  have HB5 := Lib.hid hb5
  have HX5 := Lib.hid hx5
  have HY5 := Lib.hid hy5
  clear HX4 HF4 HB4 HN2 hk5 hf5 hx5 hy5 hb5 hb1 HQ1 HQ2 hq4
  have HLa : (encNum [] 0 a size).1.length ≤ 8 := by
    unfold encNum; split
    · split
      · rename_i h; simp only [fitsB, Bool.and_eq_true, mayB, decide_eq_true_eq] at h; simp [putB_length]; omega
      · simp
    · simp
  have HLb : (encNum [] 0 b size).1.length ≤ 8 := by
    unfold encNum; split
    · split
      · rename_i h; simp only [fitsB, Bool.and_eq_true, mayB, decide_eq_true_eq] at h; simp [putB_length]; omega
      · simp
    · simp
  have HD1 := Lib.hid (enc_done _ _ _ _ _ HX5.out (by omega))
  clear HX5 HLa
  go_wp2_with fail
  refine HD1.out.mono ?_
  rintro e w6 ⟨ao, cap, rfl, hr1⟩
  have HD2 := Lib.hid (enc_done _ _ _ _ _ (HY5.out.keep (Keeps.of_below (S := fun _ => False) hr1.2.1) (fun _ _ f => f)) (by omega))
  have HR1 := Lib.hid hr1
  clear HY5 HLb HD1 hr1
  go_wp2_with fail
  refine HD2.out.mono ?_
  rintro e w7 ⟨bo, dap, rfl, hr2⟩
  have HB7 := Lib.hid (HB5.out.trans ((HR1.out.2.1.mono HB5.out.size).trans (hr2.2.1.mono (by have := HB5.out.size; have := HR1.out.2.1.size; omega))))
  have hp7 := row_keep HR1.out (Keeps.of_below (S := fun _ => False) hr2.2.1) (fun _ _ f => f)
  have hq7 := hr2.1
  clear HD2 HR1 hr2 HB5
  by_cases fa : fitsB a size = true
  · by_cases fb : fitsB b size = true
    · have hm := fa
      have hm2 := fb
      simp only [fitsB, mayB, Bool.and_eq_true, Bool.or_eq_true, decide_eq_true_eq] at hm hm2
      obtain ⟨s, rfl⟩ := Int.eq_ofNat_of_zero_le (show 0 ≤ size by omega)
      have ha0 := (amt_iff a).1 hm.1.2
      have hb0' := (amt_iff b).1 hm2.1.2
      have hdiv : ∀ n : Int, 0 ≤ n ∧ n ≤ MA → (8 ≤ (s : Int) ∨ n / 2 ^ (8 * (s : Int).toNat) ≤ 0) → (s : Int) ≤ 8 → n / 2 ^ (8 * s) = 0 := by
        intro n hn h h8
        rcases h with h | h
        · obtain rfl : s = 8 := by omega
          unfold MA at hn
          show n / 18446744073709551616 = 0
          omega
        · rw [Int.toNat_natCast] at h
          have := Int.ediv_nonneg hn.1 (show (0 : Int) ≤ 2 ^ (8 * s) from Int.le_of_lt (Int.pow_pos (by decide)))
          omega
      have h8 := hm.1.1.2
      have HO := Lib.hid (ord_put s a b ha0.1 hb0'.1 (hdiv a ha0 hm.2 hm.1.1.2) (hdiv b hb0' hm2.2 hm2.1.1.2))
      have EA : encNum [] 0 a (s : Int) = (putB a s, 0) := by simp [encNum, fa]
      have EB : encNum [] 0 b (s : Int) = (putB b s, 0) := by simp [encNum, fb]
      have LA := putB_length a s
      have LB := putB_length b s
      have DA : doneB (encNum [] 0 a (s : Int)).1 (encNum [] 0 a (s : Int)).2 = putB a s := by rw [EA]; rfl
      have DB : doneB (encNum [] 0 b (s : Int)).1 (encNum [] 0 b (s : Int)).2 = putB b s := by rw [EB]; rfl
      rw [DA] at hp7
      rw [DB] at hq7
      rw [DA, DB, EA, EB]
      have hp8 := (owns_at hp7).2.1
      have hq8 := (owns_at hq7).2.1
      have RA := putB_in a s
      have RB := putB_in b s
      clear hp7 hq7 DA DB EA EB fa fb hm hm2 ha0 hb0' hdiv
      generalize putB a s = xs at *
      generalize putB b s = ys at *
      subst LA
      rw [LB]
      have HP := Lib.hid hp8
      have HQ := Lib.hid hq8
      have HLB := Lib.hid LB
      have HRA := Lib.hid RA
      have HRB := Lib.hid RB
      clear hp8 hq8 LB RA RB
      go_wp2_with fail
      go_loopw [13, 14] (fun o i wr => ∃ k : Nat, ∃ d : Int, k ≤ xs.length ∧ i = .int .i64 k ∧ o = .int .i64 d ∧ (if d = 0 then ordF (xs.drop k) (ys.drop k) = ordF xs ys else ordF xs ys = d) ∧ wr.heap = w7.heap ∧ wr.os = w7.os ∧ wr.tape = w7.tape ∧ wr.output = w7.output) (fun _ i _ => xs.length - (intOf i).toNat)
      case atStart => exact ⟨0, 0, Nat.zero_le _, rfl, rfl, by simp, rfl, rfl, rfl, rfl⟩
      case round =>
        obtain ⟨k, d, hk, rfl, rfl, ho, e1, e2, e3, e4⟩ := hrel
        have HW : Hid (Below W.heap.size W wr) := Lib.hid ⟨e2.trans HB7.out.os, e3.trans HB7.out.tape, e4.trans HB7.out.output, by rw [e1]; exact HB7.out.size, fun i hi => by rw [e1]; exact HB7.out.block i hi⟩
        have HEQ := Lib.hid (And.intro e1 (And.intro e2 (And.intro e3 e4)))
        by_cases hd : d = 0
        · subst hd
          rw [if_pos rfl] at ho
          by_cases hlt : k < xs.length
          · have hky : k < ys.length := by rw [HLB.out]; exact hlt
            have HDR := Lib.hid (ho.symm.trans (ordF_drop xs ys k hlt hky))
            have hx1 : ∃ b1 o1, ao = some ⟨b1, o1, none⟩ ∧ wr.cell? ⟨b1, o1 + k, none⟩ = some (.int .u8 xs[k]) := by
              rcases HP.out with h | ⟨b1, o1, h1, h2⟩
              · rw [h] at hlt; simp at hlt
              · exact ⟨b1, o1, h1, by rw [World.cell?_of_block (w := w7) (by rw [e1]), h2 k hlt]; simp [List.getD, hlt]⟩
            have hy1 : ∃ b1 o1, bo = some ⟨b1, o1, none⟩ ∧ wr.cell? ⟨b1, o1 + k, none⟩ = some (.int .u8 ys[k]) := by
              rcases HQ.out with h | ⟨b1, o1, h1, h2⟩
              · rw [h] at hky; simp at hky
              · exact ⟨b1, o1, h1, by rw [World.cell?_of_block (w := w7) (by rw [e1]), h2 k hky]; simp [List.getD, hky]⟩
            have hrx := HRA.out xs[k] (List.getElem_mem hlt)
            have hry := HRB.out ys[k] (List.getElem_mem hky)
            obtain ⟨b1, o1, ea, hc1⟩ := hx1
            obtain ⟨b2, o2, eb, hc2⟩ := hy1
            generalize xs[k] = x at *
            generalize ys[k] = y at *
            clear ho e1 e2 e3 e4
            subst ea
            subst eb
            have hk1 : (0 : Int) ≤ (k : Int) := by omega
            have hk2 : (k : Int) < (xs.length : Int) := by omega
            go_wp2_with fail
            go_quiet (fail)
            go_wp2
            go_roundw
            case rel =>
              refine ⟨k + 1, x - y, by omega, by go_num, rfl, ?_, HEQ.out⟩
              have h := HDR.out
              by_cases hxy : x - y = 0
              · rw [if_pos hxy] at h ⊢; exact h.symm
              · rw [if_neg hxy] at h ⊢; exact h
            case measure => simp [intOf]; omega
          · have e0 : ordF xs ys = 0 := by
              rw [← ho, List.drop_of_length_le (by omega)]; rfl
            have hab : a = b := (HO.out.2).1 e0
            subst hab
            clear ho e0 e1 e2 e3 e4
            go_wp2_with (go_at_call 19; refine (first4 W _ (HW.out)).mono ?_; rintro e w8 ⟨rfl, hb⟩)
            go_ret
            exact ⟨ret_bool (by simp), hb⟩
        · rw [if_neg hd] at ho
          have h1 := HO.out.1
          have h2 := HO.out.2
          rw [ho] at h1 h2
          have hd' : (d == 0) = false := by simpa using hd
          have h3 : (a == b) = false := by simp; exact fun h => hd (h2.2 h)
          by_cases hlt : k < xs.length
          all_goals
            by_cases hlt' : a < b
            · have h4 := h1.2 hlt'
              clear ho e1 e2 e3 e4 h1 h2 hd
              go_wp2_with (go_at_call 19; refine (first4 W _ (HW.out)).mono ?_; rintro e w8 ⟨rfl, hb⟩)
              go_ret
              exact ⟨ret_bool (by simp), hb⟩
            · have h4 : ¬ d < 0 := fun h => hlt' (h1.1 h)
              clear ho e1 e2 e3 e4 h1 h2 hd
              go_wp2_with (go_at_call 19; refine (first4 W _ (HW.out)).mono ?_; rintro e w8 ⟨rfl, hb⟩)
              go_ret
              exact ⟨ret_bool (by simp), hb⟩
    · have EB : encNum [] 0 b size = ([], 1) := by simp [encNum, fb]
      have EA : (encNum [] 0 a size).2 = 0 := by simp [encNum, fa]
      rw [EB, EA]
      clear hp7 hq7 EA EB
      go_wp2_with (go_at_call 19; refine (first4 W _ (HB7.out)).mono ?_; rintro e w8 ⟨rfl, hb⟩)
      go_ret
      exact ⟨rfl, hb⟩
  · have EA : encNum [] 0 a size = ([], 1) := by simp [encNum, fa]
    rw [EA]
    clear hp7 hq7 EA
    go_wp2_with (go_at_call 19; refine (first4 W _ (HB7.out)).mono ?_; rintro e w8 ⟨rfl, hb⟩)
    go_ret
    exact ⟨rfl, hb⟩

/-! ### The row's step for WireOrder: the frame. -/
theorem wireOrder_own : ownKnob Try.prog.godebug = none := by kernel_rfl
theorem wireOrder_laidOut : laidOutB Try.prog = true := by kernel_rfl
set_option maxRecDepth 100000 in
theorem wireOrder_lifted (os : Os) (started : os.Started) (H : Type) (enc : TypeId × Value → H) :
    ReturnsInHanded {} Try.checked os 5 .any (Rows.wireOrderSpec.pre6 enc Try.prog Try.f5 Rows.wireOrderRow.domain false) (Rows.wireOrderSpec.post enc Try.prog Try.f5 false true false false) := by
  refine returnsInHanded_of_change (C := Try.checked) wireOrder_own started (by kernel_rfl) Try.func5
    (ChangeSpec.witness6 (enc := enc) (C := Try.checked) false ⟨#[], #[.int .i64 0, .int .i64 0, .int .i64 0], []⟩ 8 (by kernel_rfl) (by kernel_rfl) (by kernel_rfl) (by kernel_rfl)) ?_
  intro W base args ds gs before hval0 hW hcnd _
  have hval : ∀ (j : Nat) t v, Try.f5.params[j]? = some t → args[j]? = some v → Value.okWide Try.prog W .any base t v := hval0
  have hW' := hW
  obtain ⟨p, q, hA0, hV, rfl, hfz, hnd⟩ := hW
  have hA : DataW.TrodAll enc Try.prog W 0 (fun _ => true) true Try.f5.params.toList args.toList ds p := hA0
  rw [Try.params5] at hA hval
  obtain ⟨v0, vs0, d0, ds0, p0, q0, hargs, rfl, rfl, h0, r0⟩ := trodAll_cons hA
  obtain ⟨v1, vs1, d1, ds1, p1, q1, rfl, rfl, rfl, h1, r1⟩ := trodAll_cons r0
  obtain ⟨v2, vs2, d2, ds2, p2, q2, rfl, rfl, rfl, h2, r2⟩ := trodAll_cons r1
  obtain ⟨rfl, rfl, rfl⟩ := trodAll_nil r2
  obtain rfl : args = #[v0, v1, v2] := by cases args; simp_all
  obtain ⟨rfl, rfl⟩ := trodVars_none hV
  have k0 := h0
  have lt0 : ∀ x ∈ p0, x.block < W.heap.size := by obtain ⟨m, hm⟩ := k0; exact DataW.trod_lt m _ _ _ hm
  obtain ⟨a0, rfl, rfl, rfl, w0⟩ := open_int Try.underlying3 (hval 0 3 v0 rfl rfl) h0
  have k1 := h1
  have lt1 : ∀ x ∈ p1, x.block < W.heap.size := by obtain ⟨m, hm⟩ := k1; exact DataW.trod_lt m _ _ _ hm
  obtain ⟨a1, rfl, rfl, rfl, w1⟩ := open_int Try.underlying3 (hval 1 3 v1 rfl rfl) h1
  have k2 := h2
  have lt2 : ∀ x ∈ p2, x.block < W.heap.size := by obtain ⟨m, hm⟩ := k2; exact DataW.trod_lt m _ _ _ hm
  obtain ⟨a2, rfl, rfl, rfl, w2⟩ := open_int Try.underlying3 (hval 2 3 v2 rfl rfl) h2
  clear hA0 hval0
  refine (walk_wireOrder a0 w0 a1 w1 a2 w2 W).mono fun e W' ⟨he, bel⟩ => ?_
  subst he
  exact ⟨_, rfl, _, _, _, [], _, [], hW', trodAll_mk1 (shut_bool Try.underlying4 _), (trodAll_cons_mk (Below.trod wireOrder_laidOut (by kernel_rfl) (of_decide_eq_true (by kernel_rfl)) k0 bel lt0) (trodAll_cons_mk (Below.trod wireOrder_laidOut (by kernel_rfl) (of_decide_eq_true (by kernel_rfl)) k1 bel lt1) (trodAll_cons_mk (Below.trod wireOrder_laidOut (by kernel_rfl) (of_decide_eq_true (by kernel_rfl)) k2 bel lt2) trodAll_mk0))), rfl, bel.frame _, fun h => by cases h⟩

theorem wireOrder_over : Rows.wireOrderRow.holds Try.pinned (OpenSpec.ofChange Rows.wireOrderSpec) :=
  OpenClaim.holds_of_wide 5 Try.f5 rfl rfl rfl rfl rfl rfl rfl ⟨rfl, rfl, rfl, rfl, rfl⟩ rfl rfl rfl rfl rfl (by kernel_rfl) Try.func5 (by kernel_rfl)
    (of_decide_eq_true (by kernel_rfl)) (by unfold Func.isWrapper; first | (rw [if_pos (by decide +kernel)]; kernel_rfl) | (rw [if_neg (by decide +kernel)]; exact ⟨rfl, rfl⟩))
    (fun os started H enc _ => wireOrder_lifted os started H enc)

/-- The statement. -/
theorem wireOrder_holds : Rows.WireOrderSaid := wireOrder_over
#print axioms wireOrder_holds
end Go.Proofs.Ytnohdbhkepdjbaa
