/- ReqMust is true for every input, and its arguments read behind the call as before; no condition. -/
import Derived.Test.YtadejcpifabpoaaReqa
import Derived.Test.YtadejcpifabpoaaReqp
namespace Go.Proofs.Ytadejcpifabpoaa
open Go.ChangeShapes Go.WideShapes Go.ChangeAt Go.RowKit
set_option linter.unusedVariables false

theorem encF_one (r : RQ) : (encF 0 [r]).2 = if okB r = true then 0 else 1 := by
  have h0 : encHead 0 1 = ([0, 0, 1], false) := by decide
  have h1 := encReq_bad ([0, 0, 1], false) r
  simp only [encF, encSt, List.length_cons, List.length_nil, List.foldl_cons, List.foldl_nil, Nat.zero_add, h0]
  rw [if_neg (by omega)]
  unfold outEnd
  rw [h1]
  cases okB r <;> simp
theorem rqs_one (w : World) (r : RQ) (T : TypeId) : RqsAt (w.alloc (.cells r.cells T)) (some ⟨w.heap.size, 0, none⟩) [r] := by
  refine Or.inr ⟨_, _, rfl, fun i hi => ?_⟩
  match i, hi with
  | 0, _ =>
    intro j v hv
    rw [blk_cell (heap_alloc_new w _)]
    simpa using hv

def EncEPost (w : World) (r : RQ) (e : Ending) (w' : World) : Prop := ∃ ao n cap, e = .returned (.tuple #[.slice ao n cap, .int .i64 (if okB r = true then 0 else 1)]) ∧ Below w.heap.size w w'
theorem enc_one (w : World) (r : RQ) (hs : r.h.size + r.s.size ≤ 1000) (T : TypeId) (w1 : World) (hw : w1 = w.alloc (.cells r.cells T)) (B : Nat) (hB : B = w.heap.size) :
    Calls Try.prog 23 #[.agg #[.int .i64 0, .slice (some ⟨B, 0, none⟩) 1 1]] w1 (EncEPost w r) := by
  subst hw
  subst hB
  refine (encodeBatch 0 _ [r] 1 1 _ rfl (rqs_one w r T) (by simp [rqSum]; omega)).mono fun e w' ⟨ao, cap, h1, _, h3, _⟩ => ⟨ao, (encF 0 [r]).1.length, cap, ?_, ((Below.refl _ _).alloc (Nat.le_refl _) _).trans (h3.mono (by simp))⟩
  rw [h1, encF_one]

/-- A request with another thing in its place. -/
theorem okB_1 (r : RQ) (h : r.k = 1) : okB { r with i := 1 } = false := by simp [okB, h]
theorem okB_2 (r : RQ) (junk : ByteArray) (h : r.k = 2) (ho : okB r = true) : okB { r with h := junk } = decide (junk.size = 32) := by
  simp only [okB, h, Int.reduceEq, if_false, if_true, Bool.and_eq_true] at ho ⊢
  obtain ⟨⟨⟨⟨⟨⟨h1, h2⟩, h3⟩, h4⟩, h5, h6⟩, h7⟩, h8⟩ := ho
  rw [h1, h2, h3, h5, h6, h7, h8]
  simp
theorem okB_3 (r : RQ) (junk : ByteArray) (h : r.k = 3) (ho : okB r = true) : okB { r with s := junk } = decide (junk.size = 32) := by
  simp only [okB, h, Int.reduceEq, if_false, if_true, Bool.and_eq_true] at ho ⊢
  obtain ⟨⟨⟨h1, h2⟩, h3⟩, h4⟩ := ho
  rw [h1, h3, h4]
  simp
theorem okB_4 (r : RQ) (x : ByteArray) (h : r.k = 4) (hx : x.size ≠ 0) : okB { r with h := x } = false := by
  have : emptyB x = false := by rw [← Bool.not_eq_true, emptyB_iff]; exact hx
  simp [okB, h, this]
theorem okB_k (r : RQ) (ho : okB r = true) : r.k = 1 ∨ r.k = 2 ∨ r.k = 3 ∨ r.k = 4 := by
  unfold okB at ho
  by_cases h1 : r.k = 1
  · exact Or.inl h1
  · by_cases h2 : r.k = 2
    · exact Or.inr (Or.inl h2)
    · by_cases h3 : r.k = 3
      · exact Or.inr (Or.inr (Or.inl h3))
      · by_cases h4 : r.k = 4
        · exact Or.inr (Or.inr (Or.inr h4))
        · simp [h1, h2, h3, h4] at ho

set_option maxRecDepth 100000 in
set_option maxHeartbeats 4000000 in
theorem must_core (W : World) (r : RQ) (junk : ByteArray) :
    Calls Try.prog 4 #[.agg r.cells, .string junk] W fun e w' => e = .returned (.bool true) ∧ Below W.heap.size W w' := by
  have hb0 : Below W.heap.size W (W.alloc (.cells r.cells 40)) := (Below.refl _ _).alloc (Nat.le_refl _) _
  have hbx : (W.alloc (.cells r.cells 40)).heap[W.heap.size]? = some (.cells r.cells 40 (0, 0)) := heap_alloc_new W _
  have HB0 := Lib.hid hb0
  have HBX := Lib.hid hbx
  obtain ⟨w0, hw0⟩ : ∃ w0, w0 = W.alloc (.cells r.cells 40) := ⟨_, rfl⟩
  rw [← hw0] at HB0 HBX
  have HC : Hid (∀ w', Below w0.heap.size w0 w' → (w'.cell? ⟨W.heap.size, 0, none⟩ = some (.int .i64 r.k) ∧ w'.cell? ⟨W.heap.size, 1, none⟩ = some (.int .i64 r.t) ∧ w'.cell? ⟨W.heap.size, 2, none⟩ = some (.int .i64 r.a) ∧ w'.cell? ⟨W.heap.size, 3, none⟩ = some (.int .i64 r.n) ∧ w'.cell? ⟨W.heap.size, 4, none⟩ = some (.int .i64 r.i) ∧ w'.cell? ⟨W.heap.size, 5, none⟩ = some (.int .i64 r.d) ∧ w'.cell? ⟨W.heap.size, 6, none⟩ = some (.string r.h) ∧ w'.cell? ⟨W.heap.size, 7, none⟩ = some (.string r.s))) := Lib.hid (fun w' hb => by
    have hb' := (hb.block W.heap.size (blk_lt HBX.out)).trans HBX.out
    refine ⟨?_, ?_, ?_, ?_, ?_, ?_, ?_, ?_⟩
    all_goals
      rw [blk_cell hb']; rfl)
  have HSZ : Hid (w0.heap.size = W.heap.size + 1) := Lib.hid (by rw [hw0]; simp)
  have HJX : Hid ((junk ++ (⟨#[120]⟩ : ByteArray) : ByteArray).size = junk.size + 1) := Lib.hid (by rw [ByteArray.size_append]; rfl)
  unfold RQ.cells at hw0 ⊢
  have HW0 := Lib.hid hw0
  clear hb0 hbx hw0
  by_cases hs : junk.size ≤ 100 ∧ r.h.size ≤ 100 ∧ r.s.size ≤ 100
  · obtain ⟨s1, s2, s3⟩ := hs
    have i1 : ¬ (100 : Int) < (junk.size : Int) := by omega
    have i2 : ¬ (100 : Int) < (r.h.size : Int) := by omega
    have i3 : ¬ (100 : Int) < (r.s.size : Int) := by omega
    go_enter Try.func4, Try.ntmps4
    go_wp2_with fail
    rw [← HW0.out]
    refine (first11_any w0).mono ?_
    rintro e w1 ⟨rfl, hb1⟩
    obtain ⟨c0, c1, c2, c3, c4, c5, c6, c7⟩ := HC.out w1 hb1
    have HB1 := Lib.hid hb1
    clear hb1
    cases hok : okB r
    · have HOK := Lib.hid hok
      clear hok
      go_wp2_with fail
      refine (enc_one w1 r (by omega) 40 _ rfl _ rfl).mono ?_
      rintro e w2 ⟨ao2, n2, cap2, rfl, hb2⟩
      rw [HOK.out]
      have HB2 : Hid (Below W.heap.size W w2) := Lib.hid ((HB0.out.trans (HB1.out.mono HB0.out.size)).trans (hb2.mono (HB0.out.trans (HB1.out.mono HB0.out.size)).size))
      clear hb2
      go_wp2_with fail
      refine (first11 W _ HB2.out).mono ?_
      rintro e w3 ⟨rfl, hb3⟩
      have HB3 := Lib.hid hb3
      clear hb3
      go_wp2
      go_ret
      exact ⟨rfl, HB3.out⟩
    · have HOK := Lib.hid hok
      have HK := Lib.hid (okB_k r hok)
      clear hok
      go_wp2_with fail
      refine (enc_one w1 r (by omega) 40 _ rfl _ rfl).mono ?_
      rintro e w2 ⟨ao2, n2, cap2, rfl, hb2⟩
      rw [HOK.out]
      have hb12 : Below w1.heap.size w1 w2 := hb2
      have HB12 := Lib.hid (HB1.out.trans (hb12.mono HB1.out.size))
      have HB2 := Lib.hid (HB0.out.trans (HB12.out.mono HB0.out.size))
      obtain ⟨d0, d1, d2, d3, d4, d5, d6, d7⟩ := HC.out w2 HB12.out
      have hlt2 : W.heap.size < w2.heap.size := by have h1 := HB12.out.size; have h2 := HSZ.out; omega
      clear hb2 hb12 c0 c1 c2 c3 c4 c5 c6 c7
      rcases HK.out with hk | hk | hk | hk
      · have HK1 := Lib.hid hk
        have q1 : (r.k == 1) = true := by simp [hk]
        have q2 : (r.k == 2) = false := by simp [hk]
        have q3 : (r.k == 3) = false := by simp [hk]
        have q4 : (r.k == 4) = false := by simp [hk]
        have HO2 : Hid (okB { r with i := 1 } = false) := Lib.hid (okB_1 r hk)
        clear hk
        go_wp2_with fail
        refine (enc_one (w2.alloc (.cells #[.int .i64 r.k, .int .i64 r.t, .int .i64 r.a, .int .i64 r.n, .int .i64 1, .int .i64 r.d, .string r.h, .string r.s] 40)) { r with i := 1 } (by show r.h.size + r.s.size ≤ 1000; omega) 40 _ rfl _ (by simp)).mono ?_
        rintro e w4 ⟨ao4, n4, cap4, rfl, hb4⟩
        rw [HO2.out]
        have HB24 := Lib.hid (HB12.out.trans ((((Below.refl w2.heap.size w2).alloc (Nat.le_refl _) _).trans (hb4.mono (by simp))).mono HB12.out.size))
        have HB4 := Lib.hid (HB0.out.trans (HB24.out.mono HB0.out.size))
        obtain ⟨z0, z1, z2, z3, z4, z5, z6, z7⟩ := HC.out w4 HB24.out
        clear hb4 d0 d1 d2 d3 d4 d5 d6 d7 z1 z2 z3 z4 z5 z6 z7
        go_wp2_with fail
        refine (first11 W _ HB4.out).mono ?_
        rintro e w5 ⟨rfl, hb5⟩
        have HB5 := Lib.hid hb5
        clear hb5
        go_wp2
        go_ret
        exact ⟨rfl, HB5.out⟩
      · have HK1 := Lib.hid hk
        have q1 : (r.k == 1) = false := by simp [hk]
        have q2 : (r.k == 2) = true := by simp [hk]
        have q3 : (r.k == 3) = false := by simp [hk]
        have q4 : (r.k == 4) = false := by simp [hk]
        have HO2 : Hid (okB { r with h := junk } = decide (junk.size = 32)) := Lib.hid (okB_2 r junk hk HOK.out)
        clear hk
        go_wp2_with fail
        refine (enc_one (w2.alloc (.cells #[.int .i64 r.k, .int .i64 r.t, .int .i64 r.a, .int .i64 r.n, .int .i64 r.i, .int .i64 r.d, .string junk, .string r.s] 40)) { r with h := junk } (by show junk.size + r.s.size ≤ 1000; omega) 40 _ rfl _ (by simp)).mono ?_
        rintro e w4 ⟨ao4, n4, cap4, rfl, hb4⟩
        rw [HO2.out]
        have HB24 := Lib.hid (HB12.out.trans ((((Below.refl w2.heap.size w2).alloc (Nat.le_refl _) _).trans (hb4.mono (by simp))).mono HB12.out.size))
        have HB4 := Lib.hid (HB0.out.trans (HB24.out.mono HB0.out.size))
        obtain ⟨z0, z1, z2, z3, z4, z5, z6, z7⟩ := HC.out w4 HB24.out
        clear hb4 d0 d1 d2 d3 d4 d5 d6 d7 z1 z2 z3 z4 z5 z6 z7
        by_cases h32 : junk.size = 32
        · have y1 : ((junk.size : Int) == 32) = true := by simp [h32]
          have HD : Hid (decide (junk.size = 32) = true) := Lib.hid (by simp [h32])
          rw [HD.out]
          clear h32
          go_wp2_with fail
          refine (first11 W _ HB4.out).mono ?_
          rintro e w5 ⟨rfl, hb5⟩
          have HB5 := Lib.hid hb5
          clear hb5
          go_wp2
          go_ret
          exact ⟨rfl, HB5.out⟩
        · have y1 : ((junk.size : Int) == 32) = false := by simp; omega
          have HD : Hid (decide (junk.size = 32) = false) := Lib.hid (by simp [h32])
          rw [HD.out]
          clear h32
          go_wp2_with fail
          refine (first11 W _ HB4.out).mono ?_
          rintro e w5 ⟨rfl, hb5⟩
          have HB5 := Lib.hid hb5
          clear hb5
          go_wp2
          go_ret
          exact ⟨rfl, HB5.out⟩
      · have HK1 := Lib.hid hk
        have q1 : (r.k == 1) = false := by simp [hk]
        have q2 : (r.k == 2) = false := by simp [hk]
        have q3 : (r.k == 3) = true := by simp [hk]
        have q4 : (r.k == 4) = false := by simp [hk]
        have HO2 : Hid (okB { r with s := junk } = decide (junk.size = 32)) := Lib.hid (okB_3 r junk hk HOK.out)
        clear hk
        go_wp2_with fail
        refine (enc_one (w2.alloc (.cells #[.int .i64 r.k, .int .i64 r.t, .int .i64 r.a, .int .i64 r.n, .int .i64 r.i, .int .i64 r.d, .string r.h, .string junk] 40)) { r with s := junk } (by show r.h.size + junk.size ≤ 1000; omega) 40 _ rfl _ (by simp)).mono ?_
        rintro e w4 ⟨ao4, n4, cap4, rfl, hb4⟩
        rw [HO2.out]
        have HB24 := Lib.hid (HB12.out.trans ((((Below.refl w2.heap.size w2).alloc (Nat.le_refl _) _).trans (hb4.mono (by simp))).mono HB12.out.size))
        have HB4 := Lib.hid (HB0.out.trans (HB24.out.mono HB0.out.size))
        obtain ⟨z0, z1, z2, z3, z4, z5, z6, z7⟩ := HC.out w4 HB24.out
        clear hb4 d0 d1 d2 d3 d4 d5 d6 d7 z1 z2 z3 z4 z5 z6 z7
        by_cases h32 : junk.size = 32
        · have y1 : ((junk.size : Int) == 32) = true := by simp [h32]
          have HD : Hid (decide (junk.size = 32) = true) := Lib.hid (by simp [h32])
          rw [HD.out]
          clear h32
          go_wp2_with fail
          refine (first11 W _ HB4.out).mono ?_
          rintro e w5 ⟨rfl, hb5⟩
          have HB5 := Lib.hid hb5
          clear hb5
          go_wp2
          go_ret
          exact ⟨rfl, HB5.out⟩
        · have y1 : ((junk.size : Int) == 32) = false := by simp; omega
          have HD : Hid (decide (junk.size = 32) = false) := Lib.hid (by simp [h32])
          rw [HD.out]
          clear h32
          go_wp2_with fail
          refine (first11 W _ HB4.out).mono ?_
          rintro e w5 ⟨rfl, hb5⟩
          have HB5 := Lib.hid hb5
          clear hb5
          go_wp2
          go_ret
          exact ⟨rfl, HB5.out⟩
      · have HK1 := Lib.hid hk
        have q1 : (r.k == 1) = false := by simp [hk]
        have q2 : (r.k == 2) = false := by simp [hk]
        have q3 : (r.k == 3) = false := by simp [hk]
        have q4 : (r.k == 4) = true := by simp [hk]
        have HO2 : Hid (okB { r with h := (junk ++ (⟨#[120]⟩ : ByteArray)) } = false) := Lib.hid (okB_4 r _ hk (by rw [HJX.out]; omega))
        clear hk
        go_wp2_with fail
        refine (enc_one (w2.alloc (.cells #[.int .i64 r.k, .int .i64 r.t, .int .i64 r.a, .int .i64 r.n, .int .i64 r.i, .int .i64 r.d, .string (junk ++ (⟨#[120]⟩ : ByteArray)), .string r.s] 40)) { r with h := (junk ++ (⟨#[120]⟩ : ByteArray)) } (by show (junk ++ (⟨#[120]⟩ : ByteArray) : ByteArray).size + r.s.size ≤ 1000; rw [HJX.out]; omega) 40 _ rfl _ (by simp)).mono ?_
        rintro e w4 ⟨ao4, n4, cap4, rfl, hb4⟩
        rw [HO2.out]
        have HB24 := Lib.hid (HB12.out.trans ((((Below.refl w2.heap.size w2).alloc (Nat.le_refl _) _).trans (hb4.mono (by simp))).mono HB12.out.size))
        have HB4 := Lib.hid (HB0.out.trans (HB24.out.mono HB0.out.size))
        obtain ⟨z0, z1, z2, z3, z4, z5, z6, z7⟩ := HC.out w4 HB24.out
        clear hb4 d0 d1 d2 d3 d4 d5 d6 d7 z1 z2 z3 z4 z5 z6 z7
        go_wp2_with fail
        refine (first11 W _ HB4.out).mono ?_
        rintro e w5 ⟨rfl, hb5⟩
        have HB5 := Lib.hid hb5
        clear hb5
        go_wp2
        go_ret
        exact ⟨rfl, HB5.out⟩
  · have hs' : 100 < junk.size ∨ (¬ 100 < junk.size ∧ 100 < r.h.size) ∨ (¬ 100 < junk.size ∧ ¬ 100 < r.h.size ∧ 100 < r.s.size) := by omega
    clear hs
    rcases hs' with s1 | ⟨s1, s2⟩ | ⟨s1, s2, s3⟩
    all_goals
      go_enter Try.func4, Try.ntmps4
      go_wp2_with fail
      rw [← HW0.out]
      refine (first11_any w0).mono ?_
      rintro e w1 ⟨rfl, hb1⟩
      obtain ⟨c0, c1, c2, c3, c4, c5, c6, c7⟩ := HC.out w1 hb1
      have HB1 := Lib.hid (HB0.out.trans (hb1.mono HB0.out.size))
      clear hb1
      go_wp2_with fail
      refine (first11 W _ HB1.out).mono ?_
      rintro e w5 ⟨rfl, hb5⟩
      have HB5 := Lib.hid hb5
      clear hb5
      go_wp2
      go_ret
      exact ⟨rfl, HB5.out⟩

theorem walk_reqMust (W : World) (r : RQ) (junk : ByteArray) (_hj : junk.size ≤ maxLen) :
    Calls Try.prog 4 #[.agg r.cells, .string junk] W fun e w' => e = .returned (.bool true) ∧ Below W.heap.size W w' := must_core W r junk

end Go.Proofs.Ytadejcpifabpoaa
