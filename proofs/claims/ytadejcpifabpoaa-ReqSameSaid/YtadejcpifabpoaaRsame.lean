/- ReqSame is true for every input: the walk. -/
import Derived.Test.YtadejcpifabpoaaReqe
import Derived.Deep.RegionHeld3
import Derived.Test.YtadejcpifabpoaaTake
namespace Go.Proofs.Ytadejcpifabpoaa
open Go.RowKit
set_option linter.unusedVariables false

/-- The boxes that a call lays for its arguments, and that nothing below is touched. -/
structure Boxes (W wr : World) (bs : List (Array Value × TypeId)) : Prop where
  base : Below W.heap.size W wr
  box : ∀ i cs T, bs[i]? = some (cs, T) → wr.heap[W.heap.size + i]? = some (.cells cs T (0, 0))
section
variable {W wr w' : World} {bs : List (Array Value × TypeId)}
theorem Boxes.nil (W : World) : Boxes W W [] := ⟨Below.refl _ _, fun i cs T h => by simp at h⟩
theorem Boxes.push (h : Boxes W wr bs) (hs : wr.heap.size = W.heap.size + bs.length) (cs : Array Value) (T : TypeId) : Boxes W (wr.alloc (.cells cs T)) (bs ++ [(cs, T)]) := by
  refine ⟨h.base.alloc h.base.size _, fun i cs' T' hi => ?_⟩
  by_cases hl : i < bs.length
  · rw [List.getElem?_append_left hl] at hi
    exact (Below.heap_alloc _ _ _ (by omega)).trans (h.box i cs' T' hi)
  · rw [List.getElem?_append_right (by omega)] at hi
    obtain ⟨h0, h1⟩ : i - bs.length = 0 ∧ (cs, T) = (cs', T') := by
      cases hh : i - bs.length with
      | zero => rw [hh] at hi; simp at hi; exact ⟨rfl, by rw [hi.1, hi.2]⟩
      | succ k => rw [hh] at hi; simp at hi
    cases h1
    have e : W.heap.size + i = wr.heap.size := by omega
    rw [e]
    exact heap_alloc_new wr _
theorem Boxes.below (h : Boxes W wr bs) (hb : Below wr.heap.size wr w') : Boxes W w' bs :=
  ⟨h.base.trans (hb.mono h.base.size), fun i cs T hi => (hb.block _ (blk_lt (h.box i cs T hi))).trans (h.box i cs T hi)⟩
theorem Boxes.drew (h : Boxes W wr bs) : Boxes W wr.drew bs := h.below ((Keeps.refl (fun _ => False) wr).drew.below (Nat.le_refl _) (fun _ f => f.elim))
theorem Boxes.drewN (h : Boxes W wr bs) (j : Nat) : Boxes W (wr.drewN j) bs := h.below (((Keeps.refl (fun _ => False) wr).drewN j).below (Nat.le_refl _) (fun _ f => f.elim))
theorem Boxes.cell (h : Boxes W wr bs) (i j : Nat) {cs : Array Value} {T : TypeId} (hi : bs[i]? = some (cs, T)) : wr.cell? ⟨W.heap.size + i, j, none⟩ = cs[j]? := blk_cell (h.box i cs T hi) j
end
theorem below_drewN (w : World) (j : Nat) : Below w.heap.size w (w.drewN j) := ((Keeps.refl (fun _ => False) w).drewN j).below (Nat.le_refl _) (fun _ f => f.elim)
theorem below_drew (w : World) : Below w.heap.size w w.drew := (Keeps.refl (fun _ => False) w).drew.below (Nat.le_refl _) (fun _ f => f.elim)

set_option linter.unusedSimpArgs false in
set_option maxRecDepth 100000 in
set_option maxHeartbeats 8000000 in
theorem same_core (W : World) (s1 : Int) (ao : Option Addr) (xs : List RQ) (n c : Nat) (s2 : Int) (bo : Option Addr) (ys : List RQ) (m d : Nat) (P : AN) (ra : Option Addr) (n1 rc1 : Nat) (ea : Option Addr) (m1 ec1 : Nat) (Q : AN) (rb : Option Addr) (n2 rc2 : Nat) (eb : Option Addr) (m2 ec2 : Nat)
    (hn : xs.length = n) (hm : ys.length = m) (hx : RqsAt W ao xs) (hy : RqsAt W bo ys) (hc : n ≤ c ∧ c ≤ maxLen) (hd : m ≤ d ∧ d ≤ maxLen)
    (hn1 : P.rs.length = n1) (hm1 : P.es.length = m1) (hr1 : RepsAt W ra P.rs) (he1 : EvsAt W ea P.es) (hc1 : m1 ≤ ec1 ∧ ec1 ≤ maxLen)
    (hn2 : Q.rs.length = n2) (hm2 : Q.es.length = m2) (hr2 : RepsAt W rb Q.rs) (he2 : EvsAt W eb Q.es) (hc2 : m2 ≤ ec2 ∧ ec2 ≤ maxLen) :
    Calls Try.prog 8 #[.agg (#[.int .i64 s1, .slice ao n c], 46).1, .agg (#[.int .i64 s2, .slice bo m d], 46).1, .agg (#[.int .i64 P.c, .int .i64 P.q, .slice ra n1 rc1, .slice ea m1 ec1], 57).1, .agg (#[.int .i64 Q.c, .int .i64 Q.q, .slice rb n2 rc2, .slice eb m2 ec2], 57).1] W fun e w' => e = .returned (.bool true) ∧ Below W.heap.size W w' := by
  obtain ⟨w4, hw4⟩ : ∃ w4, w4 = (((W.alloc (.cells #[.int .i64 s1, .slice ao n c] 46)).alloc (.cells #[.int .i64 s2, .slice bo m d] 46)).alloc (.cells #[.int .i64 P.c, .int .i64 P.q, .slice ra n1 rc1, .slice ea m1 ec1] 57)).alloc (.cells #[.int .i64 Q.c, .int .i64 Q.q, .slice rb n2 rc2, .slice eb m2 ec2] 57) := ⟨_, rfl⟩
  have HB4 : Hid (Boxes W w4 [(#[.int .i64 s1, .slice ao n c], 46), (#[.int .i64 s2, .slice bo m d], 46), (#[.int .i64 P.c, .int .i64 P.q, .slice ra n1 rc1, .slice ea m1 ec1], 57), (#[.int .i64 Q.c, .int .i64 Q.q, .slice rb n2 rc2, .slice eb m2 ec2], 57)]) := Lib.hid (by
    subst hw4
    exact ((((Boxes.nil W).push (by simp) _ _).push (by simp) _ _).push (by simp) _ _).push (by simp) _ _)
  have HC : Hid (∀ w', Boxes W w' [(#[.int .i64 s1, .slice ao n c], 46), (#[.int .i64 s2, .slice bo m d], 46), (#[.int .i64 P.c, .int .i64 P.q, .slice ra n1 rc1, .slice ea m1 ec1], 57), (#[.int .i64 Q.c, .int .i64 Q.q, .slice rb n2 rc2, .slice eb m2 ec2], 57)] → (w'.cell? ⟨W.heap.size, 0, none⟩ = some (.int .i64 s1) ∧ w'.cell? ⟨W.heap.size, 1, none⟩ = some (.slice ao n c) ∧ w'.cell? ⟨W.heap.size + 1, 0, none⟩ = some (.int .i64 s2) ∧ w'.cell? ⟨W.heap.size + 1, 1, none⟩ = some (.slice bo m d) ∧ w'.cell? ⟨W.heap.size + 2, 0, none⟩ = some (.int .i64 P.c) ∧ w'.cell? ⟨W.heap.size + 2, 1, none⟩ = some (.int .i64 P.q) ∧ w'.cell? ⟨W.heap.size + 2, 2, none⟩ = some (.slice ra n1 rc1) ∧ w'.cell? ⟨W.heap.size + 2, 3, none⟩ = some (.slice ea m1 ec1) ∧ w'.cell? ⟨W.heap.size + 3, 0, none⟩ = some (.int .i64 Q.c) ∧ w'.cell? ⟨W.heap.size + 3, 1, none⟩ = some (.int .i64 Q.q) ∧ w'.cell? ⟨W.heap.size + 3, 2, none⟩ = some (.slice rb n2 rc2) ∧ w'.cell? ⟨W.heap.size + 3, 3, none⟩ = some (.slice eb m2 ec2))) := Lib.hid (fun w' h => ⟨h.cell 0 0 rfl, h.cell 0 1 rfl, h.cell 1 0 rfl, h.cell 1 1 rfl, h.cell 2 0 rfl, h.cell 2 1 rfl, h.cell 2 2 rfl, h.cell 2 3 rfl, h.cell 3 0 rfl, h.cell 3 1 rfl, h.cell 3 2 rfl, h.cell 3 3 rfl⟩)
  have HFX := Lib.hid (fun w' (h : Below W.heap.size W w') => few11_any s1 ao xs n c w' hn (hx.below h) hc.1 hc.2)
  have HFY := Lib.hid (fun w' (h : Below W.heap.size W w') => few11_any s2 bo ys m d w' hm (hy.below h) hd.1 hd.2)
  have HGP := Lib.hid (fun w' (h : Below W.heap.size W w') => fewAnswer_any P.c P.q ra n1 rc1 ea P.es m1 ec1 w' hm1 (he1.below h) hc1.1 hc1.2)
  have HGQ := Lib.hid (fun w' (h : Below W.heap.size W w') => fewAnswer_any Q.c Q.q rb n2 rc2 eb Q.es m2 ec2 w' hm2 (he2.below h) hc2.1 hc2.2)
  have HEX := Lib.hid (fun (hs : fewRq xs = true) w' (h : Below W.heap.size W w') => encodeBatch s1 ao xs n c w' hn (hx.below h) (by have := (fewRq_facts xs hs).2; omega))
  have HEY := Lib.hid (fun (hs : fewRq ys = true) w' (h : Below W.heap.size W w') => encodeBatch s2 bo ys m d w' hm (hy.below h) (by have := (fewRq_facts ys hs).2; omega))
  have HEP := Lib.hid (fun (hs : fewAns n1 P.es = true) w' (h : Below W.heap.size W w') => encodeAnswer P.c P.q ra P.rs n1 rc1 ea P.es m1 ec1 w' hn1 (hr1.below h) hm1 (he1.below h) (by have := (fewAns_facts _ _ hs).2.2; omega))
  have HEQ := Lib.hid (fun (hs : fewAns n2 Q.es = true) w' (h : Below W.heap.size W w') => encodeAnswer Q.c Q.q rb Q.rs n2 rc2 eb Q.es m2 ec2 w' hn2 (hr2.below h) hm2 (he2.below h) (by have := (fewAns_facts _ _ hs).2.2; omega))
  have HSB := Lib.hid (fun (h1 : fewRq xs = true) (h2 : fewRq ys = true) w' (h : Below W.heap.size W w') => sameBatch s1 ao xs n c s2 bo ys m d w' hn hm (hx.below h) (hy.below h) (by have := (fewRq_facts xs h1).1; have := (fewRq_facts ys h2).1; omega))
  have HSA := Lib.hid (fun (h1 : fewAns n1 P.es = true) (h2 : fewAns n2 Q.es = true) w' (h : Below W.heap.size W w') => sameAnswer P.c P.q ra P.rs n1 rc1 ea P.es m1 ec1 Q.c Q.q rb Q.rs n2 rc2 eb Q.es m2 ec2 w' hn1 hm1 hn2 hm2 (hr1.below h) (hr2.below h) (he1.below h) (he2.below h) (by have := (fewAns_facts _ _ h1); have := (fewAns_facts _ _ h2); omega) (by have := (fewAns_facts _ _ h1); have := (fewAns_facts _ _ h2); omega))
  have HIX := Lib.hid (encF_in s1 xs)
  have HIY := Lib.hid (encF_in s2 ys)
  have HIP := Lib.hid (ansF_in P.c P.q P.rs P.es)
  have HIQ := Lib.hid (ansF_in Q.c Q.q Q.rs Q.es)
  have HLB := Lib.hid (same_batch s1 xs s2 ys)
  have HLA : Hid ((ansF P.c P.q P.rs P.es).2 = 0 → (ansF Q.c Q.q Q.rs Q.es).2 = 0 → eqB (ansF P.c P.q P.rs P.es).1 (ansF Q.c Q.q Q.rs Q.es).1 = sameA P.c P.q P.rs P.es Q.c Q.q Q.rs Q.es) := Lib.hid (same_answer P Q)
  have HAP : Hid ((ansF P.c P.q P.rs P.es).2 = 0 ∨ ansF P.c P.q P.rs P.es = ([], 1)) := Lib.hid (ansF_12 P)
  have HAQ : Hid ((ansF Q.c Q.q Q.rs Q.es).2 = 0 ∨ ansF Q.c Q.q Q.rs Q.es = ([], 1)) := Lib.hid (ansF_12 Q)
  have HW4 := Lib.hid hw4
  clear hn hm hx hy hc hd hn1 hm1 hr1 he1 hc1 hn2 hm2 hr2 he2 hc2 hw4
  cases hk0 : fewRq xs
  · have HK0 := Lib.hid hk0
    clear hk0
    go_enter Try.func8, Try.ntmps8
    go_wp2_with fail
    rw [← HW4.out]
    refine (first11_any w4).mono ?_
    rintro e w5 ⟨rfl, hb5⟩
    have HB5 := Lib.hid (HB4.out.below hb5)
    obtain ⟨a0, a1, a2, a3, a4, a5, a6, a7, a8, a9, a10, a11⟩ := HC.out w5 HB5.out
    clear hb5
    go_wp2_with fail
    refine (HFX.out w5 HB5.out.base).mono ?_
    rintro e w6 ⟨rfl, hb6⟩
    rw [HK0.out]
    have HB6 := Lib.hid (HB5.out.below hb6)
    clear a0 a1 a2 a3 a4 a5 a6 a7 a8 a9 a10 a11
    obtain ⟨b0, b1, b2, b3, b4, b5, b6, b7, b8, b9, b10, b11⟩ := HC.out w6 HB6.out
    clear hb6
    go_wp2_with fail
    refine (first11_any w6).mono ?_
    rintro e w7 ⟨rfl, hb7⟩
    have HBE := Lib.hid (HB6.out.below hb7).base
    clear hb7
    go_wp2
    go_ret
    exact ⟨rfl, HBE.out⟩
  · have HK0 := Lib.hid hk0
    clear hk0
    cases hk1 : fewRq ys
    · have HK1 := Lib.hid hk1
      clear hk1
      go_enter Try.func8, Try.ntmps8
      go_wp2_with fail
      rw [← HW4.out]
      refine (first11_any w4).mono ?_
      rintro e w5 ⟨rfl, hb5⟩
      have HB5 := Lib.hid (HB4.out.below hb5)
      obtain ⟨a0, a1, a2, a3, a4, a5, a6, a7, a8, a9, a10, a11⟩ := HC.out w5 HB5.out
      clear hb5
      go_wp2_with fail
      refine (HFX.out w5 HB5.out.base).mono ?_
      rintro e w6 ⟨rfl, hb6⟩
      rw [HK0.out]
      have HB6 := Lib.hid (HB5.out.below hb6)
      clear a0 a1 a2 a3 a4 a5 a6 a7 a8 a9 a10 a11
      obtain ⟨b0, b1, b2, b3, b4, b5, b6, b7, b8, b9, b10, b11⟩ := HC.out w6 HB6.out
      clear hb6
      go_wp2_with fail
      refine (HFY.out w6 HB6.out.base).mono ?_
      rintro e w7 ⟨rfl, hb7⟩
      rw [HK1.out]
      have HB7 := Lib.hid (HB6.out.below hb7)
      clear b0 b1 b2 b3 b4 b5 b6 b7 b8 b9 b10 b11
      obtain ⟨c0, c1, c2, c3, c4, c5, c6, c7, c8, c9, c10, c11⟩ := HC.out w7 HB7.out
      clear hb7
      go_wp2_with fail
      refine (first11_any w7).mono ?_
      rintro e w8 ⟨rfl, hb8⟩
      have HBE := Lib.hid (HB7.out.below hb8).base
      clear hb8
      go_wp2
      go_ret
      exact ⟨rfl, HBE.out⟩
    · have HK1 := Lib.hid hk1
      clear hk1
      cases hk2 : fewAns n1 P.es
      · have HK2 := Lib.hid hk2
        clear hk2
        go_enter Try.func8, Try.ntmps8
        go_wp2_with fail
        rw [← HW4.out]
        refine (first11_any w4).mono ?_
        rintro e w5 ⟨rfl, hb5⟩
        have HB5 := Lib.hid (HB4.out.below hb5)
        obtain ⟨a0, a1, a2, a3, a4, a5, a6, a7, a8, a9, a10, a11⟩ := HC.out w5 HB5.out
        clear hb5
        go_wp2_with fail
        refine (HFX.out w5 HB5.out.base).mono ?_
        rintro e w6 ⟨rfl, hb6⟩
        rw [HK0.out]
        have HB6 := Lib.hid (HB5.out.below hb6)
        clear a0 a1 a2 a3 a4 a5 a6 a7 a8 a9 a10 a11
        obtain ⟨b0, b1, b2, b3, b4, b5, b6, b7, b8, b9, b10, b11⟩ := HC.out w6 HB6.out
        clear hb6
        go_wp2_with fail
        refine (HFY.out w6 HB6.out.base).mono ?_
        rintro e w7 ⟨rfl, hb7⟩
        rw [HK1.out]
        have HB7 := Lib.hid (HB6.out.below hb7)
        clear b0 b1 b2 b3 b4 b5 b6 b7 b8 b9 b10 b11
        obtain ⟨c0, c1, c2, c3, c4, c5, c6, c7, c8, c9, c10, c11⟩ := HC.out w7 HB7.out
        clear hb7
        go_wp2_with fail
        refine (HGP.out w7 HB7.out.base).mono ?_
        rintro e w8 ⟨rfl, hb8⟩
        rw [HK2.out]
        have HB8 := Lib.hid (HB7.out.below hb8)
        clear c0 c1 c2 c3 c4 c5 c6 c7 c8 c9 c10 c11
        obtain ⟨d0, d1, d2, d3, d4, d5, d6, d7, d8, d9, d10, d11⟩ := HC.out w8 HB8.out
        clear hb8
        go_wp2_with fail
        refine (first11_any w8).mono ?_
        rintro e w9 ⟨rfl, hb9⟩
        have HBE := Lib.hid (HB8.out.below hb9).base
        clear hb9
        go_wp2
        go_ret
        exact ⟨rfl, HBE.out⟩
      · have HK2 := Lib.hid hk2
        clear hk2
        cases hk3 : fewAns n2 Q.es
        · have HK3 := Lib.hid hk3
          clear hk3
          go_enter Try.func8, Try.ntmps8
          go_wp2_with fail
          rw [← HW4.out]
          refine (first11_any w4).mono ?_
          rintro e w5 ⟨rfl, hb5⟩
          have HB5 := Lib.hid (HB4.out.below hb5)
          obtain ⟨a0, a1, a2, a3, a4, a5, a6, a7, a8, a9, a10, a11⟩ := HC.out w5 HB5.out
          clear hb5
          go_wp2_with fail
          refine (HFX.out w5 HB5.out.base).mono ?_
          rintro e w6 ⟨rfl, hb6⟩
          rw [HK0.out]
          have HB6 := Lib.hid (HB5.out.below hb6)
          clear a0 a1 a2 a3 a4 a5 a6 a7 a8 a9 a10 a11
          obtain ⟨b0, b1, b2, b3, b4, b5, b6, b7, b8, b9, b10, b11⟩ := HC.out w6 HB6.out
          clear hb6
          go_wp2_with fail
          refine (HFY.out w6 HB6.out.base).mono ?_
          rintro e w7 ⟨rfl, hb7⟩
          rw [HK1.out]
          have HB7 := Lib.hid (HB6.out.below hb7)
          clear b0 b1 b2 b3 b4 b5 b6 b7 b8 b9 b10 b11
          obtain ⟨c0, c1, c2, c3, c4, c5, c6, c7, c8, c9, c10, c11⟩ := HC.out w7 HB7.out
          clear hb7
          go_wp2_with fail
          refine (HGP.out w7 HB7.out.base).mono ?_
          rintro e w8 ⟨rfl, hb8⟩
          rw [HK2.out]
          have HB8 := Lib.hid (HB7.out.below hb8)
          clear c0 c1 c2 c3 c4 c5 c6 c7 c8 c9 c10 c11
          obtain ⟨d0, d1, d2, d3, d4, d5, d6, d7, d8, d9, d10, d11⟩ := HC.out w8 HB8.out
          clear hb8
          go_wp2_with fail
          refine (HGQ.out w8 HB8.out.base).mono ?_
          rintro e w9 ⟨rfl, hb9⟩
          rw [HK3.out]
          have HB9 := Lib.hid (HB8.out.below hb9)
          clear d0 d1 d2 d3 d4 d5 d6 d7 d8 d9 d10 d11
          obtain ⟨e0, e1, e2, e3, e4, e5, e6, e7, e8, e9, e10, e11⟩ := HC.out w9 HB9.out
          clear hb9
          go_wp2_with fail
          refine (first11_any w9).mono ?_
          rintro e w10 ⟨rfl, hb10⟩
          have HBE := Lib.hid (HB9.out.below hb10).base
          clear hb10
          go_wp2
          go_ret
          exact ⟨rfl, HBE.out⟩
        · have HK3 := Lib.hid hk3
          clear hk3
          go_enter Try.func8, Try.ntmps8
          go_wp2_with fail
          rw [← HW4.out]
          refine (first11_any w4).mono ?_
          rintro e w5 ⟨rfl, hb5⟩
          have HB5 := Lib.hid (HB4.out.below hb5)
          obtain ⟨a0, a1, a2, a3, a4, a5, a6, a7, a8, a9, a10, a11⟩ := HC.out w5 HB5.out
          clear hb5
          go_wp2_with fail
          refine (HFX.out w5 HB5.out.base).mono ?_
          rintro e w6 ⟨rfl, hb6⟩
          rw [HK0.out]
          have HB6 := Lib.hid (HB5.out.below hb6)
          clear a0 a1 a2 a3 a4 a5 a6 a7 a8 a9 a10 a11
          obtain ⟨b0, b1, b2, b3, b4, b5, b6, b7, b8, b9, b10, b11⟩ := HC.out w6 HB6.out
          clear hb6
          go_wp2_with fail
          refine (HFY.out w6 HB6.out.base).mono ?_
          rintro e w7 ⟨rfl, hb7⟩
          rw [HK1.out]
          have HB7 := Lib.hid (HB6.out.below hb7)
          clear b0 b1 b2 b3 b4 b5 b6 b7 b8 b9 b10 b11
          obtain ⟨c0, c1, c2, c3, c4, c5, c6, c7, c8, c9, c10, c11⟩ := HC.out w7 HB7.out
          clear hb7
          go_wp2_with fail
          refine (HGP.out w7 HB7.out.base).mono ?_
          rintro e w8 ⟨rfl, hb8⟩
          rw [HK2.out]
          have HB8 := Lib.hid (HB7.out.below hb8)
          clear c0 c1 c2 c3 c4 c5 c6 c7 c8 c9 c10 c11
          obtain ⟨d0, d1, d2, d3, d4, d5, d6, d7, d8, d9, d10, d11⟩ := HC.out w8 HB8.out
          clear hb8
          go_wp2_with fail
          refine (HGQ.out w8 HB8.out.base).mono ?_
          rintro e w9 ⟨rfl, hb9⟩
          rw [HK3.out]
          have HB9 := Lib.hid (HB8.out.below hb9)
          clear d0 d1 d2 d3 d4 d5 d6 d7 d8 d9 d10 d11
          obtain ⟨e0, e1, e2, e3, e4, e5, e6, e7, e8, e9, e10, e11⟩ := HC.out w9 HB9.out
          clear hb9
          go_wp2_with fail
          refine (HEX.out HK0.out w9 HB9.out.base).mono ?_
          rintro e w10 ⟨o0, p0, rfl, hi0, hb10, _⟩
          have HB10 := Lib.hid (HB9.out.below hb10)
          have HI0 := Lib.hid hi0
          clear e0 e1 e2 e3 e4 e5 e6 e7 e8 e9 e10 e11
          obtain ⟨f0, f1, f2, f3, f4, f5, f6, f7, f8, f9, f10, f11⟩ := HC.out w10 HB10.out
          clear hi0 hb10
          go_wp2_with fail
          refine (HEY.out HK1.out w10 HB10.out.base).mono ?_
          rintro e w11 ⟨o1, p1, rfl, hi1, hb11, _⟩
          have HB11 := Lib.hid (HB10.out.below hb11)
          have HI0 := Lib.hid (ints_below HI0.out hb11)
          have HI1 := Lib.hid hi1
          clear f0 f1 f2 f3 f4 f5 f6 f7 f8 f9 f10 f11
          obtain ⟨g0, g1, g2, g3, g4, g5, g6, g7, g8, g9, g10, g11⟩ := HC.out w11 HB11.out
          clear hi1 hb11
          go_wp2_with fail
          refine (HEP.out HK2.out w11 HB11.out.base).mono ?_
          rintro e w12 ⟨o2, p2, rfl, hi2, hb12, _⟩
          have HB12 := Lib.hid (HB11.out.below hb12)
          have HI0 := Lib.hid (ints_below HI0.out hb12)
          have HI1 := Lib.hid (ints_below HI1.out hb12)
          have HI2 := Lib.hid hi2
          clear g0 g1 g2 g3 g4 g5 g6 g7 g8 g9 g10 g11
          obtain ⟨h0, h1, h2, h3, h4, h5, h6, h7, h8, h9, h10, h11⟩ := HC.out w12 HB12.out
          clear hi2 hb12
          go_wp2_with fail
          refine (HEQ.out HK3.out w12 HB12.out.base).mono ?_
          rintro e w13 ⟨o3, p3, rfl, hi3, hb13, _⟩
          have HB13 := Lib.hid (HB12.out.below hb13)
          have HI0 := Lib.hid (ints_below HI0.out hb13)
          have HI1 := Lib.hid (ints_below HI1.out hb13)
          have HI2 := Lib.hid (ints_below HI2.out hb13)
          have HI3 := Lib.hid hi3
          clear h0 h1 h2 h3 h4 h5 h6 h7 h8 h9 h10 h11
          obtain ⟨i0, i1, i2, i3, i4, i5, i6, i7, i8, i9, i10, i11⟩ := HC.out w13 HB13.out
          clear hi3 hb13
          rcases encF_12 s1 xs with hq1 | hq1
          · rcases encF_12 s2 ys with hq2 | hq2
            · have HQ1 := Lib.hid hq1
              have HQ2 := Lib.hid hq2
              have HLB1 := Lib.hid (HLB.out hq1 hq2)
              generalize hr1 : encF s1 xs = r1 at *
              generalize hr2 : encF s2 ys = r2 at *
              obtain ⟨l1, f1⟩ := r1
              obtain ⟨l2, f2⟩ := r2
              simp only at hq1 hq2
              subst hq1 hq2
              clear hr1 hr2 HEX HEY
              go_wp2_with fail
              go_region_held3 (fun w' => w'.cell? ⟨W.heap.size, 0, none⟩ = some (.int .i64 s1) ∧ w'.cell? ⟨W.heap.size, 1, none⟩ = some (.slice ao n c) ∧ w'.cell? ⟨W.heap.size + 1, 0, none⟩ = some (.int .i64 s2) ∧ w'.cell? ⟨W.heap.size + 1, 1, none⟩ = some (.slice bo m d))
                (first | go_keep | (obtain ⟨z0, z1, z2, z3, _⟩ := HC.out _ (HB13.out.drew.below (by assumption)); exact ⟨z0, z1, z2, z3⟩))
                ((first
                  | (go_at_call 35; refine (bytes_eq o0 o1 l1 l2 _ _ _ _ _ rfl rfl (ints_below HI0.out (below_drew _)) (ints_below HI1.out (below_drew _)) HIX.out HIY.out).mono ?_; rintro e w14 ⟨rfl, rfl⟩; rw [HLB1.out])
                  | (go_at_call 36; refine (HSB.out HK0.out HK1.out _ HB13.out.drew.base).mono ?_; rintro e wT ⟨rfl, hb14⟩)))
              have HBT := Lib.hid (HB13.out.drew.below hb14)
              have HT2 := Lib.hid (ints_below (ints_below HI2.out (below_drew _)) hb14)
              have HT3 := Lib.hid (ints_below (ints_below HI3.out (below_drew _)) hb14)
              clear hb14
              clear i0 i1 i2 i3 i4 i5 i6 i7 i8 i9 i10 i11
              obtain ⟨k0, k1, k2, k3, k4, k5, k6, k7, k8, k9, k10, k11⟩ := HC.out wT HBT.out
              rcases HAP.out with hp1 | hp1
              · rcases HAQ.out with hp2 | hp2
                · have HLA1 := Lib.hid (HLA.out hp1 hp2)
                  clear HAP HAQ
                  generalize hr3 : ansF P.c P.q P.rs P.es = r3 at *
                  generalize hr4 : ansF Q.c Q.q Q.rs Q.es = r4 at *
                  obtain ⟨l3, f3⟩ := r3
                  obtain ⟨l4, f4⟩ := r4
                  simp only at hp1 hp2
                  subst hp1 hp2
                  clear hr3 hr4 HEP HEQ
                  go_wp2_with fail
                  first
                  | (go_region_held3 (fun w' => w'.cell? ⟨W.heap.size + 2, 0, none⟩ = some (.int .i64 P.c) ∧ w'.cell? ⟨W.heap.size + 2, 1, none⟩ = some (.int .i64 P.q) ∧ w'.cell? ⟨W.heap.size + 2, 2, none⟩ = some (.slice ra n1 rc1) ∧ w'.cell? ⟨W.heap.size + 2, 3, none⟩ = some (.slice ea m1 ec1) ∧ w'.cell? ⟨W.heap.size + 3, 0, none⟩ = some (.int .i64 Q.c) ∧ w'.cell? ⟨W.heap.size + 3, 1, none⟩ = some (.int .i64 Q.q) ∧ w'.cell? ⟨W.heap.size + 3, 2, none⟩ = some (.slice rb n2 rc2) ∧ w'.cell? ⟨W.heap.size + 3, 3, none⟩ = some (.slice eb m2 ec2))
                      (first | go_keep | (obtain ⟨_, _, _, _, z4, z5, z6, z7, z8, z9, z10, z11⟩ := HC.out _ (HBT.out.drew.below hb15); exact ⟨z4, z5, z6, z7, z8, z9, z10, z11⟩) | (obtain ⟨_, _, _, _, z4, z5, z6, z7, z8, z9, z10, z11⟩ := HC.out _ ((HBT.out.drew.below hb15).below hb16); exact ⟨z4, z5, z6, z7, z8, z9, z10, z11⟩))
                      ((first
                        | (go_at_call 22; refine (first11_any _).mono ?_; rintro e w15 ⟨rfl, hb15⟩)
                        | (go_at_call 35; refine (bytes_eq o2 o3 l3 l4 _ _ _ _ _ rfl rfl (ints_below (ints_below HT2.out (below_drew _)) hb15) (ints_below (ints_below HT3.out (below_drew _)) hb15) HIP.out HIQ.out).mono ?_; rintro e w16 ⟨rfl, rfl⟩; rw [HLA1.out])
                        | (go_at_call 37; refine (HSA.out HK2.out HK3.out _ (HBT.out.drew.below hb15).base).mono ?_; rintro e w16 ⟨rfl, hb16⟩)
                        )))
                  | fail
                  have HBE := Lib.hid ((HBT.out.drew.below hb15).below hb16).base
                  clear hb15 hb16
                  go_wp2
                  go_ret
                  exact ⟨rfl, HBE.out⟩
                · rw [hp2]
                  clear HAP HAQ
                  generalize hr3 : ansF P.c P.q P.rs P.es = r3 at *
                  obtain ⟨l3, f3⟩ := r3
                  simp only at hp1
                  subst hp1
                  clear hr3 hp2 HEP HEQ
                  go_wp2_with fail
                  refine wp_region_held_drew (S := (fun _ => True)) (by kernel_rfl) ?_ (fun hHeld => ?_)
                  · trivial
                  refine wpAnyH_ready (rs := [0]) (by kernel_rfl) (by simp) ?_
                  refine AllReadyH.cons rfl (fun K hK => ?_) AllReadyH.nil
                  go_simp
                  go_at_call 22
                  refine (first11_any _).mono ?_
                  rintro e w15 ⟨rfl, hb15⟩
                  go_wp2_with fail
                  refine hK.out _ _ ?_ (fun hHeld => ?_)
                  · trivial
                  clear hK K
                  try simp only [Act.put, List.getElem_toArray, List.getElem_cons_succ, List.getElem_cons_zero]
                  try simp only [List.setIfInBounds_toArray, List.set_cons_zero, List.set_cons_succ]
                  refine take_at (i := 1) (d := 74) (v := ?_) rfl rfl (by kernel_rfl) (by kernel_rfl) (by kernel_rfl) (fun _ _ _ h => h) (Or.inl ⟨by rfl, by intro w' hSw; (try dsimp only at hSw); go_simp; try with_reducible rfl⟩) (by assumption) ?_
                  simp only [List.setIfInBounds_toArray, List.set_cons_zero, List.set_cons_succ]
                  refine take_at (i := 2) (d := 75) (v := ?_) rfl rfl (by kernel_rfl) (by kernel_rfl) (by kernel_rfl) (fun _ _ _ h => h) (Or.inl ⟨by rfl, by intro w' hSw; (try dsimp only at hSw); go_simp; try with_reducible rfl⟩) (by assumption) ?_
                  simp only [List.setIfInBounds_toArray, List.set_cons_zero, List.set_cons_succ]
                  refine take_at (i := 3) (d := 76) (v := ?_) rfl rfl (by kernel_rfl) (by kernel_rfl) (by kernel_rfl) (fun _ _ _ h => h) (Or.inl ⟨by rfl, by intro w' hSw; (try dsimp only at hSw); go_simp; try with_reducible rfl⟩) (by assumption) ?_
                  simp only [List.setIfInBounds_toArray, List.set_cons_zero, List.set_cons_succ]
                  refine take_at (i := 4) (d := 77) (v := ?_) rfl rfl (by kernel_rfl) (by kernel_rfl) (by kernel_rfl) (fun _ _ _ h => h) (Or.inl ⟨by rfl, by intro w' hSw; (try dsimp only at hSw); go_simp; try with_reducible rfl⟩) (by assumption) ?_
                  simp only [List.setIfInBounds_toArray, List.set_cons_zero, List.set_cons_succ]
                  refine take_at (i := 5) (d := 78) (v := ?_) rfl rfl (by kernel_rfl) (by kernel_rfl) (by kernel_rfl) (fun _ _ _ h => h) (Or.inl ⟨by rfl, by intro w' hSw; (try dsimp only at hSw); go_simp; try with_reducible rfl⟩) (by assumption) ?_
                  simp only [List.setIfInBounds_toArray, List.set_cons_zero, List.set_cons_succ]
                  refine take_at (i := 6) (d := 79) (v := ?_) rfl rfl (by kernel_rfl) (by kernel_rfl) (by kernel_rfl) (fun _ _ _ h => h) (Or.inl ⟨by rfl, by intro w' hSw; (try dsimp only at hSw); go_simp; try with_reducible rfl⟩) (by assumption) ?_
                  simp only [List.setIfInBounds_toArray, List.set_cons_zero, List.set_cons_succ]
                  refine take_at (i := 7) (d := 80) (v := ?_) rfl rfl (by kernel_rfl) (by kernel_rfl) (by kernel_rfl) (fun _ _ _ h => h) (Or.inl ⟨by rfl, by intro w' hSw; (try dsimp only at hSw); go_simp; try with_reducible rfl⟩) (by assumption) ?_
                  simp only [List.setIfInBounds_toArray, List.set_cons_zero, List.set_cons_succ]
                  refine take_at (i := 8) (d := 81) (v := ?_) rfl rfl (by kernel_rfl) (by kernel_rfl) (by kernel_rfl) (fun _ _ _ h => h) (Or.inl ⟨by rfl, by intro w' hSw; (try dsimp only at hSw); go_simp; try with_reducible rfl⟩) (by assumption) ?_
                  simp only [List.setIfInBounds_toArray, List.set_cons_zero, List.set_cons_succ]
                  refine take_at (i := 9) (d := 82) (v := undef) rfl rfl (by kernel_rfl) (by kernel_rfl) (by kernel_rfl) (fun _ _ _ h => h) (Or.inr ⟨by rfl, rfl⟩) (by assumption) ?_
                  simp only [List.setIfInBounds_toArray, List.set_cons_zero, List.set_cons_succ]
                  refine take_at (i := 10) (d := 83) (v := undef) rfl rfl (by kernel_rfl) (by kernel_rfl) (by kernel_rfl) (fun _ _ _ h => h) (Or.inr ⟨by rfl, rfl⟩) (by assumption) ?_
                  simp only [List.setIfInBounds_toArray, List.set_cons_zero, List.set_cons_succ]
                  refine take_at (i := 11) (d := 84) (v := undef) rfl rfl (by kernel_rfl) (by kernel_rfl) (by kernel_rfl) (fun _ _ _ h => h) (Or.inr ⟨by rfl, rfl⟩) (by assumption) ?_
                  simp only [List.setIfInBounds_toArray, List.set_cons_zero, List.set_cons_succ]
                  refine take_at (i := 12) (d := 85) (v := undef) rfl rfl (by kernel_rfl) (by kernel_rfl) (by kernel_rfl) (fun _ _ _ h => h) (Or.inr ⟨by rfl, rfl⟩) (by assumption) ?_
                  simp only [List.setIfInBounds_toArray, List.set_cons_zero, List.set_cons_succ]
                  refine take_at (i := 13) (d := 86) (v := undef) rfl rfl (by kernel_rfl) (by kernel_rfl) (by kernel_rfl) (fun _ _ _ h => h) (Or.inr ⟨by rfl, rfl⟩) (by assumption) ?_
                  simp only [List.setIfInBounds_toArray, List.set_cons_zero, List.set_cons_succ]
                  refine take_at (i := 14) (d := 87) (v := undef) rfl rfl (by kernel_rfl) (by kernel_rfl) (by kernel_rfl) (fun _ _ _ h => h) (Or.inr ⟨by rfl, rfl⟩) (by assumption) ?_
                  simp only [List.setIfInBounds_toArray, List.set_cons_zero, List.set_cons_succ]
                  refine take_at (i := 15) (d := 88) (v := undef) rfl rfl (by kernel_rfl) (by kernel_rfl) (by kernel_rfl) (fun _ _ _ h => h) (Or.inr ⟨by rfl, rfl⟩) (by assumption) ?_
                  simp only [List.setIfInBounds_toArray, List.set_cons_zero, List.set_cons_succ]
                  refine take_at (i := 16) (d := 89) (v := ?_) rfl rfl (by kernel_rfl) (by kernel_rfl) (by kernel_rfl) (fun _ _ _ h => h) (Or.inl ⟨by rfl, by intro w' hSw; (try dsimp only at hSw); go_simp; try with_reducible rfl⟩) (by assumption) ?_
                  simp only [List.setIfInBounds_toArray, List.set_cons_zero, List.set_cons_succ]
                  refine take_at (i := 17) (d := 90) (v := ?_) rfl rfl (by kernel_rfl) (by kernel_rfl) (by kernel_rfl) (fun _ _ _ h => h) (Or.inl ⟨by rfl, by intro w' hSw; (try dsimp only at hSw); go_simp; try with_reducible rfl⟩) (by assumption) ?_
                  simp only [List.setIfInBounds_toArray, List.set_cons_zero, List.set_cons_succ]
                  refine take_at (i := 18) (d := 8) (v := ?_) rfl rfl (by kernel_rfl) (by kernel_rfl) (by kernel_rfl) (fun _ _ _ h => h) (Or.inl ⟨by rfl, by intro w' hSw; (try dsimp only at hSw); go_simp; try with_reducible rfl⟩) (by assumption) ?_
                  simp only [List.setIfInBounds_toArray, List.set_cons_zero, List.set_cons_succ]
                  refine wpAnyH_done (by kernel_rfl) ?_ _
                  have HBE := Lib.hid (HBT.out.drew.below hb15).base
                  clear hb15
                  go_wp2
                  go_ret
                  exact ⟨rfl, HBE.out⟩
              · rw [hp1]
                clear hp1 HAP HAQ HEP HEQ
                generalize ansF Q.c Q.q Q.rs Q.es = r4 at *
                go_wp2_with fail
                refine wp_region_held_drew (S := (fun _ => True)) (by kernel_rfl) ?_ (fun hHeld => ?_)
                · trivial
                refine wpAnyH_ready (rs := [0]) (by kernel_rfl) (by simp) ?_
                refine AllReadyH.cons rfl (fun K hK => ?_) AllReadyH.nil
                go_simp
                go_at_call 22
                refine (first11_any _).mono ?_
                rintro e w15 ⟨rfl, hb15⟩
                go_wp2_with fail
                refine hK.out _ _ ?_ (fun hHeld => ?_)
                · trivial
                clear hK K
                try simp only [Act.put, List.getElem_toArray, List.getElem_cons_succ, List.getElem_cons_zero]
                try simp only [List.setIfInBounds_toArray, List.set_cons_zero, List.set_cons_succ]
                refine take_at (i := 1) (d := 74) (v := ?_) rfl rfl (by kernel_rfl) (by kernel_rfl) (by kernel_rfl) (fun _ _ _ h => h) (Or.inl ⟨by rfl, by intro w' hSw; (try dsimp only at hSw); go_simp; try with_reducible rfl⟩) (by assumption) ?_
                simp only [List.setIfInBounds_toArray, List.set_cons_zero, List.set_cons_succ]
                refine take_at (i := 2) (d := 75) (v := ?_) rfl rfl (by kernel_rfl) (by kernel_rfl) (by kernel_rfl) (fun _ _ _ h => h) (Or.inl ⟨by rfl, by intro w' hSw; (try dsimp only at hSw); go_simp; try with_reducible rfl⟩) (by assumption) ?_
                simp only [List.setIfInBounds_toArray, List.set_cons_zero, List.set_cons_succ]
                refine take_at (i := 3) (d := 76) (v := ?_) rfl rfl (by kernel_rfl) (by kernel_rfl) (by kernel_rfl) (fun _ _ _ h => h) (Or.inl ⟨by rfl, by intro w' hSw; (try dsimp only at hSw); go_simp; try with_reducible rfl⟩) (by assumption) ?_
                simp only [List.setIfInBounds_toArray, List.set_cons_zero, List.set_cons_succ]
                refine take_at (i := 4) (d := 77) (v := ?_) rfl rfl (by kernel_rfl) (by kernel_rfl) (by kernel_rfl) (fun _ _ _ h => h) (Or.inl ⟨by rfl, by intro w' hSw; (try dsimp only at hSw); go_simp; try with_reducible rfl⟩) (by assumption) ?_
                simp only [List.setIfInBounds_toArray, List.set_cons_zero, List.set_cons_succ]
                refine take_at (i := 5) (d := 78) (v := undef) rfl rfl (by kernel_rfl) (by kernel_rfl) (by kernel_rfl) (fun _ _ _ h => h) (Or.inr ⟨by rfl, rfl⟩) (by assumption) ?_
                simp only [List.setIfInBounds_toArray, List.set_cons_zero, List.set_cons_succ]
                refine take_at (i := 6) (d := 79) (v := undef) rfl rfl (by kernel_rfl) (by kernel_rfl) (by kernel_rfl) (fun _ _ _ h => h) (Or.inr ⟨by rfl, rfl⟩) (by assumption) ?_
                simp only [List.setIfInBounds_toArray, List.set_cons_zero, List.set_cons_succ]
                refine take_at (i := 7) (d := 80) (v := ?_) rfl rfl (by kernel_rfl) (by kernel_rfl) (by kernel_rfl) (fun _ _ _ h => h) (Or.inl ⟨by rfl, by intro w' hSw; (try dsimp only at hSw); go_simp; try with_reducible rfl⟩) (by assumption) ?_
                simp only [List.setIfInBounds_toArray, List.set_cons_zero, List.set_cons_succ]
                refine take_at (i := 8) (d := 81) (v := ?_) rfl rfl (by kernel_rfl) (by kernel_rfl) (by kernel_rfl) (fun _ _ _ h => h) (Or.inl ⟨by rfl, by intro w' hSw; (try dsimp only at hSw); go_simp; try with_reducible rfl⟩) (by assumption) ?_
                simp only [List.setIfInBounds_toArray, List.set_cons_zero, List.set_cons_succ]
                refine take_at (i := 9) (d := 82) (v := undef) rfl rfl (by kernel_rfl) (by kernel_rfl) (by kernel_rfl) (fun _ _ _ h => h) (Or.inr ⟨by rfl, rfl⟩) (by assumption) ?_
                simp only [List.setIfInBounds_toArray, List.set_cons_zero, List.set_cons_succ]
                refine take_at (i := 10) (d := 83) (v := undef) rfl rfl (by kernel_rfl) (by kernel_rfl) (by kernel_rfl) (fun _ _ _ h => h) (Or.inr ⟨by rfl, rfl⟩) (by assumption) ?_
                simp only [List.setIfInBounds_toArray, List.set_cons_zero, List.set_cons_succ]
                refine take_at (i := 11) (d := 84) (v := undef) rfl rfl (by kernel_rfl) (by kernel_rfl) (by kernel_rfl) (fun _ _ _ h => h) (Or.inr ⟨by rfl, rfl⟩) (by assumption) ?_
                simp only [List.setIfInBounds_toArray, List.set_cons_zero, List.set_cons_succ]
                refine take_at (i := 12) (d := 85) (v := undef) rfl rfl (by kernel_rfl) (by kernel_rfl) (by kernel_rfl) (fun _ _ _ h => h) (Or.inr ⟨by rfl, rfl⟩) (by assumption) ?_
                simp only [List.setIfInBounds_toArray, List.set_cons_zero, List.set_cons_succ]
                refine take_at (i := 13) (d := 86) (v := undef) rfl rfl (by kernel_rfl) (by kernel_rfl) (by kernel_rfl) (fun _ _ _ h => h) (Or.inr ⟨by rfl, rfl⟩) (by assumption) ?_
                simp only [List.setIfInBounds_toArray, List.set_cons_zero, List.set_cons_succ]
                refine take_at (i := 14) (d := 87) (v := undef) rfl rfl (by kernel_rfl) (by kernel_rfl) (by kernel_rfl) (fun _ _ _ h => h) (Or.inr ⟨by rfl, rfl⟩) (by assumption) ?_
                simp only [List.setIfInBounds_toArray, List.set_cons_zero, List.set_cons_succ]
                refine take_at (i := 15) (d := 88) (v := undef) rfl rfl (by kernel_rfl) (by kernel_rfl) (by kernel_rfl) (fun _ _ _ h => h) (Or.inr ⟨by rfl, rfl⟩) (by assumption) ?_
                simp only [List.setIfInBounds_toArray, List.set_cons_zero, List.set_cons_succ]
                refine take_at (i := 16) (d := 89) (v := ?_) rfl rfl (by kernel_rfl) (by kernel_rfl) (by kernel_rfl) (fun _ _ _ h => h) (Or.inl ⟨by rfl, by intro w' hSw; (try dsimp only at hSw); go_simp; try with_reducible rfl⟩) (by assumption) ?_
                simp only [List.setIfInBounds_toArray, List.set_cons_zero, List.set_cons_succ]
                refine take_at (i := 17) (d := 90) (v := ?_) rfl rfl (by kernel_rfl) (by kernel_rfl) (by kernel_rfl) (fun _ _ _ h => h) (Or.inl ⟨by rfl, by intro w' hSw; (try dsimp only at hSw); go_simp; try with_reducible rfl⟩) (by assumption) ?_
                simp only [List.setIfInBounds_toArray, List.set_cons_zero, List.set_cons_succ]
                refine take_at (i := 18) (d := 8) (v := ?_) rfl rfl (by kernel_rfl) (by kernel_rfl) (by kernel_rfl) (fun _ _ _ h => h) (Or.inl ⟨by rfl, by intro w' hSw; (try dsimp only at hSw); go_simp; try with_reducible rfl⟩) (by assumption) ?_
                simp only [List.setIfInBounds_toArray, List.set_cons_zero, List.set_cons_succ]
                refine wpAnyH_done (by kernel_rfl) ?_ _
                have HBE := Lib.hid (HBT.out.drew.below hb15).base
                clear hb15
                go_wp2
                go_ret
                exact ⟨rfl, HBE.out⟩
            · rw [hq2]
              have HQ1 := Lib.hid hq1
              generalize hr1 : encF s1 xs = r1 at *
              obtain ⟨l1, f1⟩ := r1
              simp only at hq1
              subst hq1
              clear hr1 hq2 HEX HEY
              go_wp2_with fail
              go_quiet (fail)
              have HBT := Lib.hid (HB13.out.drewN nq)
              have HT2 := Lib.hid (ints_below HI2.out (below_drewN _ nq))
              have HT3 := Lib.hid (ints_below HI3.out (below_drewN _ nq))
              generalize w13.drewN nq = wT at *
              clear i0 i1 i2 i3 i4 i5 i6 i7 i8 i9 i10 i11
              obtain ⟨k0, k1, k2, k3, k4, k5, k6, k7, k8, k9, k10, k11⟩ := HC.out wT HBT.out
              rcases HAP.out with hp1 | hp1
              · rcases HAQ.out with hp2 | hp2
                · have HLA1 := Lib.hid (HLA.out hp1 hp2)
                  clear HAP HAQ
                  generalize hr3 : ansF P.c P.q P.rs P.es = r3 at *
                  generalize hr4 : ansF Q.c Q.q Q.rs Q.es = r4 at *
                  obtain ⟨l3, f3⟩ := r3
                  obtain ⟨l4, f4⟩ := r4
                  simp only at hp1 hp2
                  subst hp1 hp2
                  clear hr3 hr4 HEP HEQ
                  go_wp2_with fail
                  first
                  | (go_region_held3 (fun w' => w'.cell? ⟨W.heap.size + 2, 0, none⟩ = some (.int .i64 P.c) ∧ w'.cell? ⟨W.heap.size + 2, 1, none⟩ = some (.int .i64 P.q) ∧ w'.cell? ⟨W.heap.size + 2, 2, none⟩ = some (.slice ra n1 rc1) ∧ w'.cell? ⟨W.heap.size + 2, 3, none⟩ = some (.slice ea m1 ec1) ∧ w'.cell? ⟨W.heap.size + 3, 0, none⟩ = some (.int .i64 Q.c) ∧ w'.cell? ⟨W.heap.size + 3, 1, none⟩ = some (.int .i64 Q.q) ∧ w'.cell? ⟨W.heap.size + 3, 2, none⟩ = some (.slice rb n2 rc2) ∧ w'.cell? ⟨W.heap.size + 3, 3, none⟩ = some (.slice eb m2 ec2))
                      (first | go_keep | (obtain ⟨_, _, _, _, z4, z5, z6, z7, z8, z9, z10, z11⟩ := HC.out _ (HBT.out.drew.below hb15); exact ⟨z4, z5, z6, z7, z8, z9, z10, z11⟩) | (obtain ⟨_, _, _, _, z4, z5, z6, z7, z8, z9, z10, z11⟩ := HC.out _ ((HBT.out.drew.below hb15).below hb16); exact ⟨z4, z5, z6, z7, z8, z9, z10, z11⟩))
                      ((first
                        | (go_at_call 22; refine (first11_any _).mono ?_; rintro e w15 ⟨rfl, hb15⟩)
                        | (go_at_call 35; refine (bytes_eq o2 o3 l3 l4 _ _ _ _ _ rfl rfl (ints_below (ints_below HT2.out (below_drew _)) hb15) (ints_below (ints_below HT3.out (below_drew _)) hb15) HIP.out HIQ.out).mono ?_; rintro e w16 ⟨rfl, rfl⟩; rw [HLA1.out])
                        | (go_at_call 37; refine (HSA.out HK2.out HK3.out _ (HBT.out.drew.below hb15).base).mono ?_; rintro e w16 ⟨rfl, hb16⟩)
                        )))
                  | fail
                  have HBE := Lib.hid ((HBT.out.drew.below hb15).below hb16).base
                  clear hb15 hb16
                  go_wp2
                  go_ret
                  exact ⟨rfl, HBE.out⟩
                · rw [hp2]
                  clear HAP HAQ
                  generalize hr3 : ansF P.c P.q P.rs P.es = r3 at *
                  obtain ⟨l3, f3⟩ := r3
                  simp only at hp1
                  subst hp1
                  clear hr3 hp2 HEP HEQ
                  go_wp2_with fail
                  refine wp_region_held_drew (S := (fun _ => True)) (by kernel_rfl) ?_ (fun hHeld => ?_)
                  · trivial
                  refine wpAnyH_ready (rs := [0]) (by kernel_rfl) (by simp) ?_
                  refine AllReadyH.cons rfl (fun K hK => ?_) AllReadyH.nil
                  go_simp
                  go_at_call 22
                  refine (first11_any _).mono ?_
                  rintro e w15 ⟨rfl, hb15⟩
                  go_wp2_with fail
                  refine hK.out _ _ ?_ (fun hHeld => ?_)
                  · trivial
                  clear hK K
                  try simp only [Act.put, List.getElem_toArray, List.getElem_cons_succ, List.getElem_cons_zero]
                  try simp only [List.setIfInBounds_toArray, List.set_cons_zero, List.set_cons_succ]
                  refine take_at (i := 1) (d := 74) (v := ?_) rfl rfl (by kernel_rfl) (by kernel_rfl) (by kernel_rfl) (fun _ _ _ h => h) (Or.inl ⟨by rfl, by intro w' hSw; (try dsimp only at hSw); go_simp; try with_reducible rfl⟩) (by assumption) ?_
                  simp only [List.setIfInBounds_toArray, List.set_cons_zero, List.set_cons_succ]
                  refine take_at (i := 2) (d := 75) (v := ?_) rfl rfl (by kernel_rfl) (by kernel_rfl) (by kernel_rfl) (fun _ _ _ h => h) (Or.inl ⟨by rfl, by intro w' hSw; (try dsimp only at hSw); go_simp; try with_reducible rfl⟩) (by assumption) ?_
                  simp only [List.setIfInBounds_toArray, List.set_cons_zero, List.set_cons_succ]
                  refine take_at (i := 3) (d := 76) (v := ?_) rfl rfl (by kernel_rfl) (by kernel_rfl) (by kernel_rfl) (fun _ _ _ h => h) (Or.inl ⟨by rfl, by intro w' hSw; (try dsimp only at hSw); go_simp; try with_reducible rfl⟩) (by assumption) ?_
                  simp only [List.setIfInBounds_toArray, List.set_cons_zero, List.set_cons_succ]
                  refine take_at (i := 4) (d := 77) (v := ?_) rfl rfl (by kernel_rfl) (by kernel_rfl) (by kernel_rfl) (fun _ _ _ h => h) (Or.inl ⟨by rfl, by intro w' hSw; (try dsimp only at hSw); go_simp; try with_reducible rfl⟩) (by assumption) ?_
                  simp only [List.setIfInBounds_toArray, List.set_cons_zero, List.set_cons_succ]
                  refine take_at (i := 5) (d := 78) (v := ?_) rfl rfl (by kernel_rfl) (by kernel_rfl) (by kernel_rfl) (fun _ _ _ h => h) (Or.inl ⟨by rfl, by intro w' hSw; (try dsimp only at hSw); go_simp; try with_reducible rfl⟩) (by assumption) ?_
                  simp only [List.setIfInBounds_toArray, List.set_cons_zero, List.set_cons_succ]
                  refine take_at (i := 6) (d := 79) (v := ?_) rfl rfl (by kernel_rfl) (by kernel_rfl) (by kernel_rfl) (fun _ _ _ h => h) (Or.inl ⟨by rfl, by intro w' hSw; (try dsimp only at hSw); go_simp; try with_reducible rfl⟩) (by assumption) ?_
                  simp only [List.setIfInBounds_toArray, List.set_cons_zero, List.set_cons_succ]
                  refine take_at (i := 7) (d := 80) (v := ?_) rfl rfl (by kernel_rfl) (by kernel_rfl) (by kernel_rfl) (fun _ _ _ h => h) (Or.inl ⟨by rfl, by intro w' hSw; (try dsimp only at hSw); go_simp; try with_reducible rfl⟩) (by assumption) ?_
                  simp only [List.setIfInBounds_toArray, List.set_cons_zero, List.set_cons_succ]
                  refine take_at (i := 8) (d := 81) (v := ?_) rfl rfl (by kernel_rfl) (by kernel_rfl) (by kernel_rfl) (fun _ _ _ h => h) (Or.inl ⟨by rfl, by intro w' hSw; (try dsimp only at hSw); go_simp; try with_reducible rfl⟩) (by assumption) ?_
                  simp only [List.setIfInBounds_toArray, List.set_cons_zero, List.set_cons_succ]
                  refine take_at (i := 9) (d := 82) (v := undef) rfl rfl (by kernel_rfl) (by kernel_rfl) (by kernel_rfl) (fun _ _ _ h => h) (Or.inr ⟨by rfl, rfl⟩) (by assumption) ?_
                  simp only [List.setIfInBounds_toArray, List.set_cons_zero, List.set_cons_succ]
                  refine take_at (i := 10) (d := 83) (v := undef) rfl rfl (by kernel_rfl) (by kernel_rfl) (by kernel_rfl) (fun _ _ _ h => h) (Or.inr ⟨by rfl, rfl⟩) (by assumption) ?_
                  simp only [List.setIfInBounds_toArray, List.set_cons_zero, List.set_cons_succ]
                  refine take_at (i := 11) (d := 84) (v := undef) rfl rfl (by kernel_rfl) (by kernel_rfl) (by kernel_rfl) (fun _ _ _ h => h) (Or.inr ⟨by rfl, rfl⟩) (by assumption) ?_
                  simp only [List.setIfInBounds_toArray, List.set_cons_zero, List.set_cons_succ]
                  refine take_at (i := 12) (d := 85) (v := undef) rfl rfl (by kernel_rfl) (by kernel_rfl) (by kernel_rfl) (fun _ _ _ h => h) (Or.inr ⟨by rfl, rfl⟩) (by assumption) ?_
                  simp only [List.setIfInBounds_toArray, List.set_cons_zero, List.set_cons_succ]
                  refine take_at (i := 13) (d := 86) (v := undef) rfl rfl (by kernel_rfl) (by kernel_rfl) (by kernel_rfl) (fun _ _ _ h => h) (Or.inr ⟨by rfl, rfl⟩) (by assumption) ?_
                  simp only [List.setIfInBounds_toArray, List.set_cons_zero, List.set_cons_succ]
                  refine take_at (i := 14) (d := 87) (v := undef) rfl rfl (by kernel_rfl) (by kernel_rfl) (by kernel_rfl) (fun _ _ _ h => h) (Or.inr ⟨by rfl, rfl⟩) (by assumption) ?_
                  simp only [List.setIfInBounds_toArray, List.set_cons_zero, List.set_cons_succ]
                  refine take_at (i := 15) (d := 88) (v := undef) rfl rfl (by kernel_rfl) (by kernel_rfl) (by kernel_rfl) (fun _ _ _ h => h) (Or.inr ⟨by rfl, rfl⟩) (by assumption) ?_
                  simp only [List.setIfInBounds_toArray, List.set_cons_zero, List.set_cons_succ]
                  refine take_at (i := 16) (d := 89) (v := ?_) rfl rfl (by kernel_rfl) (by kernel_rfl) (by kernel_rfl) (fun _ _ _ h => h) (Or.inl ⟨by rfl, by intro w' hSw; (try dsimp only at hSw); go_simp; try with_reducible rfl⟩) (by assumption) ?_
                  simp only [List.setIfInBounds_toArray, List.set_cons_zero, List.set_cons_succ]
                  refine take_at (i := 17) (d := 90) (v := ?_) rfl rfl (by kernel_rfl) (by kernel_rfl) (by kernel_rfl) (fun _ _ _ h => h) (Or.inl ⟨by rfl, by intro w' hSw; (try dsimp only at hSw); go_simp; try with_reducible rfl⟩) (by assumption) ?_
                  simp only [List.setIfInBounds_toArray, List.set_cons_zero, List.set_cons_succ]
                  refine take_at (i := 18) (d := 8) (v := ?_) rfl rfl (by kernel_rfl) (by kernel_rfl) (by kernel_rfl) (fun _ _ _ h => h) (Or.inl ⟨by rfl, by intro w' hSw; (try dsimp only at hSw); go_simp; try with_reducible rfl⟩) (by assumption) ?_
                  simp only [List.setIfInBounds_toArray, List.set_cons_zero, List.set_cons_succ]
                  refine wpAnyH_done (by kernel_rfl) ?_ _
                  have HBE := Lib.hid (HBT.out.drew.below hb15).base
                  clear hb15
                  go_wp2
                  go_ret
                  exact ⟨rfl, HBE.out⟩
              · rw [hp1]
                clear hp1 HAP HAQ HEP HEQ
                generalize ansF Q.c Q.q Q.rs Q.es = r4 at *
                go_wp2_with fail
                refine wp_region_held_drew (S := (fun _ => True)) (by kernel_rfl) ?_ (fun hHeld => ?_)
                · trivial
                refine wpAnyH_ready (rs := [0]) (by kernel_rfl) (by simp) ?_
                refine AllReadyH.cons rfl (fun K hK => ?_) AllReadyH.nil
                go_simp
                go_at_call 22
                refine (first11_any _).mono ?_
                rintro e w15 ⟨rfl, hb15⟩
                go_wp2_with fail
                refine hK.out _ _ ?_ (fun hHeld => ?_)
                · trivial
                clear hK K
                try simp only [Act.put, List.getElem_toArray, List.getElem_cons_succ, List.getElem_cons_zero]
                try simp only [List.setIfInBounds_toArray, List.set_cons_zero, List.set_cons_succ]
                refine take_at (i := 1) (d := 74) (v := ?_) rfl rfl (by kernel_rfl) (by kernel_rfl) (by kernel_rfl) (fun _ _ _ h => h) (Or.inl ⟨by rfl, by intro w' hSw; (try dsimp only at hSw); go_simp; try with_reducible rfl⟩) (by assumption) ?_
                simp only [List.setIfInBounds_toArray, List.set_cons_zero, List.set_cons_succ]
                refine take_at (i := 2) (d := 75) (v := ?_) rfl rfl (by kernel_rfl) (by kernel_rfl) (by kernel_rfl) (fun _ _ _ h => h) (Or.inl ⟨by rfl, by intro w' hSw; (try dsimp only at hSw); go_simp; try with_reducible rfl⟩) (by assumption) ?_
                simp only [List.setIfInBounds_toArray, List.set_cons_zero, List.set_cons_succ]
                refine take_at (i := 3) (d := 76) (v := ?_) rfl rfl (by kernel_rfl) (by kernel_rfl) (by kernel_rfl) (fun _ _ _ h => h) (Or.inl ⟨by rfl, by intro w' hSw; (try dsimp only at hSw); go_simp; try with_reducible rfl⟩) (by assumption) ?_
                simp only [List.setIfInBounds_toArray, List.set_cons_zero, List.set_cons_succ]
                refine take_at (i := 4) (d := 77) (v := ?_) rfl rfl (by kernel_rfl) (by kernel_rfl) (by kernel_rfl) (fun _ _ _ h => h) (Or.inl ⟨by rfl, by intro w' hSw; (try dsimp only at hSw); go_simp; try with_reducible rfl⟩) (by assumption) ?_
                simp only [List.setIfInBounds_toArray, List.set_cons_zero, List.set_cons_succ]
                refine take_at (i := 5) (d := 78) (v := undef) rfl rfl (by kernel_rfl) (by kernel_rfl) (by kernel_rfl) (fun _ _ _ h => h) (Or.inr ⟨by rfl, rfl⟩) (by assumption) ?_
                simp only [List.setIfInBounds_toArray, List.set_cons_zero, List.set_cons_succ]
                refine take_at (i := 6) (d := 79) (v := undef) rfl rfl (by kernel_rfl) (by kernel_rfl) (by kernel_rfl) (fun _ _ _ h => h) (Or.inr ⟨by rfl, rfl⟩) (by assumption) ?_
                simp only [List.setIfInBounds_toArray, List.set_cons_zero, List.set_cons_succ]
                refine take_at (i := 7) (d := 80) (v := ?_) rfl rfl (by kernel_rfl) (by kernel_rfl) (by kernel_rfl) (fun _ _ _ h => h) (Or.inl ⟨by rfl, by intro w' hSw; (try dsimp only at hSw); go_simp; try with_reducible rfl⟩) (by assumption) ?_
                simp only [List.setIfInBounds_toArray, List.set_cons_zero, List.set_cons_succ]
                refine take_at (i := 8) (d := 81) (v := ?_) rfl rfl (by kernel_rfl) (by kernel_rfl) (by kernel_rfl) (fun _ _ _ h => h) (Or.inl ⟨by rfl, by intro w' hSw; (try dsimp only at hSw); go_simp; try with_reducible rfl⟩) (by assumption) ?_
                simp only [List.setIfInBounds_toArray, List.set_cons_zero, List.set_cons_succ]
                refine take_at (i := 9) (d := 82) (v := undef) rfl rfl (by kernel_rfl) (by kernel_rfl) (by kernel_rfl) (fun _ _ _ h => h) (Or.inr ⟨by rfl, rfl⟩) (by assumption) ?_
                simp only [List.setIfInBounds_toArray, List.set_cons_zero, List.set_cons_succ]
                refine take_at (i := 10) (d := 83) (v := undef) rfl rfl (by kernel_rfl) (by kernel_rfl) (by kernel_rfl) (fun _ _ _ h => h) (Or.inr ⟨by rfl, rfl⟩) (by assumption) ?_
                simp only [List.setIfInBounds_toArray, List.set_cons_zero, List.set_cons_succ]
                refine take_at (i := 11) (d := 84) (v := undef) rfl rfl (by kernel_rfl) (by kernel_rfl) (by kernel_rfl) (fun _ _ _ h => h) (Or.inr ⟨by rfl, rfl⟩) (by assumption) ?_
                simp only [List.setIfInBounds_toArray, List.set_cons_zero, List.set_cons_succ]
                refine take_at (i := 12) (d := 85) (v := undef) rfl rfl (by kernel_rfl) (by kernel_rfl) (by kernel_rfl) (fun _ _ _ h => h) (Or.inr ⟨by rfl, rfl⟩) (by assumption) ?_
                simp only [List.setIfInBounds_toArray, List.set_cons_zero, List.set_cons_succ]
                refine take_at (i := 13) (d := 86) (v := undef) rfl rfl (by kernel_rfl) (by kernel_rfl) (by kernel_rfl) (fun _ _ _ h => h) (Or.inr ⟨by rfl, rfl⟩) (by assumption) ?_
                simp only [List.setIfInBounds_toArray, List.set_cons_zero, List.set_cons_succ]
                refine take_at (i := 14) (d := 87) (v := undef) rfl rfl (by kernel_rfl) (by kernel_rfl) (by kernel_rfl) (fun _ _ _ h => h) (Or.inr ⟨by rfl, rfl⟩) (by assumption) ?_
                simp only [List.setIfInBounds_toArray, List.set_cons_zero, List.set_cons_succ]
                refine take_at (i := 15) (d := 88) (v := undef) rfl rfl (by kernel_rfl) (by kernel_rfl) (by kernel_rfl) (fun _ _ _ h => h) (Or.inr ⟨by rfl, rfl⟩) (by assumption) ?_
                simp only [List.setIfInBounds_toArray, List.set_cons_zero, List.set_cons_succ]
                refine take_at (i := 16) (d := 89) (v := ?_) rfl rfl (by kernel_rfl) (by kernel_rfl) (by kernel_rfl) (fun _ _ _ h => h) (Or.inl ⟨by rfl, by intro w' hSw; (try dsimp only at hSw); go_simp; try with_reducible rfl⟩) (by assumption) ?_
                simp only [List.setIfInBounds_toArray, List.set_cons_zero, List.set_cons_succ]
                refine take_at (i := 17) (d := 90) (v := ?_) rfl rfl (by kernel_rfl) (by kernel_rfl) (by kernel_rfl) (fun _ _ _ h => h) (Or.inl ⟨by rfl, by intro w' hSw; (try dsimp only at hSw); go_simp; try with_reducible rfl⟩) (by assumption) ?_
                simp only [List.setIfInBounds_toArray, List.set_cons_zero, List.set_cons_succ]
                refine take_at (i := 18) (d := 8) (v := ?_) rfl rfl (by kernel_rfl) (by kernel_rfl) (by kernel_rfl) (fun _ _ _ h => h) (Or.inl ⟨by rfl, by intro w' hSw; (try dsimp only at hSw); go_simp; try with_reducible rfl⟩) (by assumption) ?_
                simp only [List.setIfInBounds_toArray, List.set_cons_zero, List.set_cons_succ]
                refine wpAnyH_done (by kernel_rfl) ?_ _
                have HBE := Lib.hid (HBT.out.drew.below hb15).base
                clear hb15
                go_wp2
                go_ret
                exact ⟨rfl, HBE.out⟩
          · rw [hq1]
            clear hq1
            generalize encF s2 ys = r2 at *
            go_wp2_with fail
            go_quiet (fail)
            have HBT := Lib.hid (HB13.out.drewN nq)
            have HT2 := Lib.hid (ints_below HI2.out (below_drewN _ nq))
            have HT3 := Lib.hid (ints_below HI3.out (below_drewN _ nq))
            generalize w13.drewN nq = wT at *
            clear i0 i1 i2 i3 i4 i5 i6 i7 i8 i9 i10 i11
            obtain ⟨k0, k1, k2, k3, k4, k5, k6, k7, k8, k9, k10, k11⟩ := HC.out wT HBT.out
            rcases HAP.out with hp1 | hp1
            · rcases HAQ.out with hp2 | hp2
              · have HLA1 := Lib.hid (HLA.out hp1 hp2)
                clear HAP HAQ
                generalize hr3 : ansF P.c P.q P.rs P.es = r3 at *
                generalize hr4 : ansF Q.c Q.q Q.rs Q.es = r4 at *
                obtain ⟨l3, f3⟩ := r3
                obtain ⟨l4, f4⟩ := r4
                simp only at hp1 hp2
                subst hp1 hp2
                clear hr3 hr4 HEP HEQ
                go_wp2_with fail
                first
                | (go_region_held3 (fun w' => w'.cell? ⟨W.heap.size + 2, 0, none⟩ = some (.int .i64 P.c) ∧ w'.cell? ⟨W.heap.size + 2, 1, none⟩ = some (.int .i64 P.q) ∧ w'.cell? ⟨W.heap.size + 2, 2, none⟩ = some (.slice ra n1 rc1) ∧ w'.cell? ⟨W.heap.size + 2, 3, none⟩ = some (.slice ea m1 ec1) ∧ w'.cell? ⟨W.heap.size + 3, 0, none⟩ = some (.int .i64 Q.c) ∧ w'.cell? ⟨W.heap.size + 3, 1, none⟩ = some (.int .i64 Q.q) ∧ w'.cell? ⟨W.heap.size + 3, 2, none⟩ = some (.slice rb n2 rc2) ∧ w'.cell? ⟨W.heap.size + 3, 3, none⟩ = some (.slice eb m2 ec2))
                    (first | go_keep | (obtain ⟨_, _, _, _, z4, z5, z6, z7, z8, z9, z10, z11⟩ := HC.out _ (HBT.out.drew.below hb15); exact ⟨z4, z5, z6, z7, z8, z9, z10, z11⟩) | (obtain ⟨_, _, _, _, z4, z5, z6, z7, z8, z9, z10, z11⟩ := HC.out _ ((HBT.out.drew.below hb15).below hb16); exact ⟨z4, z5, z6, z7, z8, z9, z10, z11⟩))
                    ((first
                      | (go_at_call 22; refine (first11_any _).mono ?_; rintro e w15 ⟨rfl, hb15⟩)
                      | (go_at_call 35; refine (bytes_eq o2 o3 l3 l4 _ _ _ _ _ rfl rfl (ints_below (ints_below HT2.out (below_drew _)) hb15) (ints_below (ints_below HT3.out (below_drew _)) hb15) HIP.out HIQ.out).mono ?_; rintro e w16 ⟨rfl, rfl⟩; rw [HLA1.out])
                      | (go_at_call 37; refine (HSA.out HK2.out HK3.out _ (HBT.out.drew.below hb15).base).mono ?_; rintro e w16 ⟨rfl, hb16⟩)
                      )))
                | fail
                have HBE := Lib.hid ((HBT.out.drew.below hb15).below hb16).base
                clear hb15 hb16
                go_wp2
                go_ret
                exact ⟨rfl, HBE.out⟩
              · rw [hp2]
                clear HAP HAQ
                generalize hr3 : ansF P.c P.q P.rs P.es = r3 at *
                obtain ⟨l3, f3⟩ := r3
                simp only at hp1
                subst hp1
                clear hr3 hp2 HEP HEQ
                go_wp2_with fail
                refine wp_region_held_drew (S := (fun _ => True)) (by kernel_rfl) ?_ (fun hHeld => ?_)
                · trivial
                refine wpAnyH_ready (rs := [0]) (by kernel_rfl) (by simp) ?_
                refine AllReadyH.cons rfl (fun K hK => ?_) AllReadyH.nil
                go_simp
                go_at_call 22
                refine (first11_any _).mono ?_
                rintro e w15 ⟨rfl, hb15⟩
                go_wp2_with fail
                refine hK.out _ _ ?_ (fun hHeld => ?_)
                · trivial
                clear hK K
                try simp only [Act.put, List.getElem_toArray, List.getElem_cons_succ, List.getElem_cons_zero]
                try simp only [List.setIfInBounds_toArray, List.set_cons_zero, List.set_cons_succ]
                refine take_at (i := 1) (d := 74) (v := ?_) rfl rfl (by kernel_rfl) (by kernel_rfl) (by kernel_rfl) (fun _ _ _ h => h) (Or.inl ⟨by rfl, by intro w' hSw; (try dsimp only at hSw); go_simp; try with_reducible rfl⟩) (by assumption) ?_
                simp only [List.setIfInBounds_toArray, List.set_cons_zero, List.set_cons_succ]
                refine take_at (i := 2) (d := 75) (v := ?_) rfl rfl (by kernel_rfl) (by kernel_rfl) (by kernel_rfl) (fun _ _ _ h => h) (Or.inl ⟨by rfl, by intro w' hSw; (try dsimp only at hSw); go_simp; try with_reducible rfl⟩) (by assumption) ?_
                simp only [List.setIfInBounds_toArray, List.set_cons_zero, List.set_cons_succ]
                refine take_at (i := 3) (d := 76) (v := ?_) rfl rfl (by kernel_rfl) (by kernel_rfl) (by kernel_rfl) (fun _ _ _ h => h) (Or.inl ⟨by rfl, by intro w' hSw; (try dsimp only at hSw); go_simp; try with_reducible rfl⟩) (by assumption) ?_
                simp only [List.setIfInBounds_toArray, List.set_cons_zero, List.set_cons_succ]
                refine take_at (i := 4) (d := 77) (v := ?_) rfl rfl (by kernel_rfl) (by kernel_rfl) (by kernel_rfl) (fun _ _ _ h => h) (Or.inl ⟨by rfl, by intro w' hSw; (try dsimp only at hSw); go_simp; try with_reducible rfl⟩) (by assumption) ?_
                simp only [List.setIfInBounds_toArray, List.set_cons_zero, List.set_cons_succ]
                refine take_at (i := 5) (d := 78) (v := ?_) rfl rfl (by kernel_rfl) (by kernel_rfl) (by kernel_rfl) (fun _ _ _ h => h) (Or.inl ⟨by rfl, by intro w' hSw; (try dsimp only at hSw); go_simp; try with_reducible rfl⟩) (by assumption) ?_
                simp only [List.setIfInBounds_toArray, List.set_cons_zero, List.set_cons_succ]
                refine take_at (i := 6) (d := 79) (v := ?_) rfl rfl (by kernel_rfl) (by kernel_rfl) (by kernel_rfl) (fun _ _ _ h => h) (Or.inl ⟨by rfl, by intro w' hSw; (try dsimp only at hSw); go_simp; try with_reducible rfl⟩) (by assumption) ?_
                simp only [List.setIfInBounds_toArray, List.set_cons_zero, List.set_cons_succ]
                refine take_at (i := 7) (d := 80) (v := ?_) rfl rfl (by kernel_rfl) (by kernel_rfl) (by kernel_rfl) (fun _ _ _ h => h) (Or.inl ⟨by rfl, by intro w' hSw; (try dsimp only at hSw); go_simp; try with_reducible rfl⟩) (by assumption) ?_
                simp only [List.setIfInBounds_toArray, List.set_cons_zero, List.set_cons_succ]
                refine take_at (i := 8) (d := 81) (v := ?_) rfl rfl (by kernel_rfl) (by kernel_rfl) (by kernel_rfl) (fun _ _ _ h => h) (Or.inl ⟨by rfl, by intro w' hSw; (try dsimp only at hSw); go_simp; try with_reducible rfl⟩) (by assumption) ?_
                simp only [List.setIfInBounds_toArray, List.set_cons_zero, List.set_cons_succ]
                refine take_at (i := 9) (d := 82) (v := undef) rfl rfl (by kernel_rfl) (by kernel_rfl) (by kernel_rfl) (fun _ _ _ h => h) (Or.inr ⟨by rfl, rfl⟩) (by assumption) ?_
                simp only [List.setIfInBounds_toArray, List.set_cons_zero, List.set_cons_succ]
                refine take_at (i := 10) (d := 83) (v := undef) rfl rfl (by kernel_rfl) (by kernel_rfl) (by kernel_rfl) (fun _ _ _ h => h) (Or.inr ⟨by rfl, rfl⟩) (by assumption) ?_
                simp only [List.setIfInBounds_toArray, List.set_cons_zero, List.set_cons_succ]
                refine take_at (i := 11) (d := 84) (v := undef) rfl rfl (by kernel_rfl) (by kernel_rfl) (by kernel_rfl) (fun _ _ _ h => h) (Or.inr ⟨by rfl, rfl⟩) (by assumption) ?_
                simp only [List.setIfInBounds_toArray, List.set_cons_zero, List.set_cons_succ]
                refine take_at (i := 12) (d := 85) (v := undef) rfl rfl (by kernel_rfl) (by kernel_rfl) (by kernel_rfl) (fun _ _ _ h => h) (Or.inr ⟨by rfl, rfl⟩) (by assumption) ?_
                simp only [List.setIfInBounds_toArray, List.set_cons_zero, List.set_cons_succ]
                refine take_at (i := 13) (d := 86) (v := undef) rfl rfl (by kernel_rfl) (by kernel_rfl) (by kernel_rfl) (fun _ _ _ h => h) (Or.inr ⟨by rfl, rfl⟩) (by assumption) ?_
                simp only [List.setIfInBounds_toArray, List.set_cons_zero, List.set_cons_succ]
                refine take_at (i := 14) (d := 87) (v := undef) rfl rfl (by kernel_rfl) (by kernel_rfl) (by kernel_rfl) (fun _ _ _ h => h) (Or.inr ⟨by rfl, rfl⟩) (by assumption) ?_
                simp only [List.setIfInBounds_toArray, List.set_cons_zero, List.set_cons_succ]
                refine take_at (i := 15) (d := 88) (v := undef) rfl rfl (by kernel_rfl) (by kernel_rfl) (by kernel_rfl) (fun _ _ _ h => h) (Or.inr ⟨by rfl, rfl⟩) (by assumption) ?_
                simp only [List.setIfInBounds_toArray, List.set_cons_zero, List.set_cons_succ]
                refine take_at (i := 16) (d := 89) (v := ?_) rfl rfl (by kernel_rfl) (by kernel_rfl) (by kernel_rfl) (fun _ _ _ h => h) (Or.inl ⟨by rfl, by intro w' hSw; (try dsimp only at hSw); go_simp; try with_reducible rfl⟩) (by assumption) ?_
                simp only [List.setIfInBounds_toArray, List.set_cons_zero, List.set_cons_succ]
                refine take_at (i := 17) (d := 90) (v := ?_) rfl rfl (by kernel_rfl) (by kernel_rfl) (by kernel_rfl) (fun _ _ _ h => h) (Or.inl ⟨by rfl, by intro w' hSw; (try dsimp only at hSw); go_simp; try with_reducible rfl⟩) (by assumption) ?_
                simp only [List.setIfInBounds_toArray, List.set_cons_zero, List.set_cons_succ]
                refine take_at (i := 18) (d := 8) (v := ?_) rfl rfl (by kernel_rfl) (by kernel_rfl) (by kernel_rfl) (fun _ _ _ h => h) (Or.inl ⟨by rfl, by intro w' hSw; (try dsimp only at hSw); go_simp; try with_reducible rfl⟩) (by assumption) ?_
                simp only [List.setIfInBounds_toArray, List.set_cons_zero, List.set_cons_succ]
                refine wpAnyH_done (by kernel_rfl) ?_ _
                have HBE := Lib.hid (HBT.out.drew.below hb15).base
                clear hb15
                go_wp2
                go_ret
                exact ⟨rfl, HBE.out⟩
            · rw [hp1]
              clear hp1 HAP HAQ HEP HEQ
              generalize ansF Q.c Q.q Q.rs Q.es = r4 at *
              go_wp2_with fail
              refine wp_region_held_drew (S := (fun _ => True)) (by kernel_rfl) ?_ (fun hHeld => ?_)
              · trivial
              refine wpAnyH_ready (rs := [0]) (by kernel_rfl) (by simp) ?_
              refine AllReadyH.cons rfl (fun K hK => ?_) AllReadyH.nil
              go_simp
              go_at_call 22
              refine (first11_any _).mono ?_
              rintro e w15 ⟨rfl, hb15⟩
              go_wp2_with fail
              refine hK.out _ _ ?_ (fun hHeld => ?_)
              · trivial
              clear hK K
              try simp only [Act.put, List.getElem_toArray, List.getElem_cons_succ, List.getElem_cons_zero]
              try simp only [List.setIfInBounds_toArray, List.set_cons_zero, List.set_cons_succ]
              refine take_at (i := 1) (d := 74) (v := ?_) rfl rfl (by kernel_rfl) (by kernel_rfl) (by kernel_rfl) (fun _ _ _ h => h) (Or.inl ⟨by rfl, by intro w' hSw; (try dsimp only at hSw); go_simp; try with_reducible rfl⟩) (by assumption) ?_
              simp only [List.setIfInBounds_toArray, List.set_cons_zero, List.set_cons_succ]
              refine take_at (i := 2) (d := 75) (v := ?_) rfl rfl (by kernel_rfl) (by kernel_rfl) (by kernel_rfl) (fun _ _ _ h => h) (Or.inl ⟨by rfl, by intro w' hSw; (try dsimp only at hSw); go_simp; try with_reducible rfl⟩) (by assumption) ?_
              simp only [List.setIfInBounds_toArray, List.set_cons_zero, List.set_cons_succ]
              refine take_at (i := 3) (d := 76) (v := ?_) rfl rfl (by kernel_rfl) (by kernel_rfl) (by kernel_rfl) (fun _ _ _ h => h) (Or.inl ⟨by rfl, by intro w' hSw; (try dsimp only at hSw); go_simp; try with_reducible rfl⟩) (by assumption) ?_
              simp only [List.setIfInBounds_toArray, List.set_cons_zero, List.set_cons_succ]
              refine take_at (i := 4) (d := 77) (v := ?_) rfl rfl (by kernel_rfl) (by kernel_rfl) (by kernel_rfl) (fun _ _ _ h => h) (Or.inl ⟨by rfl, by intro w' hSw; (try dsimp only at hSw); go_simp; try with_reducible rfl⟩) (by assumption) ?_
              simp only [List.setIfInBounds_toArray, List.set_cons_zero, List.set_cons_succ]
              refine take_at (i := 5) (d := 78) (v := undef) rfl rfl (by kernel_rfl) (by kernel_rfl) (by kernel_rfl) (fun _ _ _ h => h) (Or.inr ⟨by rfl, rfl⟩) (by assumption) ?_
              simp only [List.setIfInBounds_toArray, List.set_cons_zero, List.set_cons_succ]
              refine take_at (i := 6) (d := 79) (v := undef) rfl rfl (by kernel_rfl) (by kernel_rfl) (by kernel_rfl) (fun _ _ _ h => h) (Or.inr ⟨by rfl, rfl⟩) (by assumption) ?_
              simp only [List.setIfInBounds_toArray, List.set_cons_zero, List.set_cons_succ]
              refine take_at (i := 7) (d := 80) (v := ?_) rfl rfl (by kernel_rfl) (by kernel_rfl) (by kernel_rfl) (fun _ _ _ h => h) (Or.inl ⟨by rfl, by intro w' hSw; (try dsimp only at hSw); go_simp; try with_reducible rfl⟩) (by assumption) ?_
              simp only [List.setIfInBounds_toArray, List.set_cons_zero, List.set_cons_succ]
              refine take_at (i := 8) (d := 81) (v := ?_) rfl rfl (by kernel_rfl) (by kernel_rfl) (by kernel_rfl) (fun _ _ _ h => h) (Or.inl ⟨by rfl, by intro w' hSw; (try dsimp only at hSw); go_simp; try with_reducible rfl⟩) (by assumption) ?_
              simp only [List.setIfInBounds_toArray, List.set_cons_zero, List.set_cons_succ]
              refine take_at (i := 9) (d := 82) (v := undef) rfl rfl (by kernel_rfl) (by kernel_rfl) (by kernel_rfl) (fun _ _ _ h => h) (Or.inr ⟨by rfl, rfl⟩) (by assumption) ?_
              simp only [List.setIfInBounds_toArray, List.set_cons_zero, List.set_cons_succ]
              refine take_at (i := 10) (d := 83) (v := undef) rfl rfl (by kernel_rfl) (by kernel_rfl) (by kernel_rfl) (fun _ _ _ h => h) (Or.inr ⟨by rfl, rfl⟩) (by assumption) ?_
              simp only [List.setIfInBounds_toArray, List.set_cons_zero, List.set_cons_succ]
              refine take_at (i := 11) (d := 84) (v := undef) rfl rfl (by kernel_rfl) (by kernel_rfl) (by kernel_rfl) (fun _ _ _ h => h) (Or.inr ⟨by rfl, rfl⟩) (by assumption) ?_
              simp only [List.setIfInBounds_toArray, List.set_cons_zero, List.set_cons_succ]
              refine take_at (i := 12) (d := 85) (v := undef) rfl rfl (by kernel_rfl) (by kernel_rfl) (by kernel_rfl) (fun _ _ _ h => h) (Or.inr ⟨by rfl, rfl⟩) (by assumption) ?_
              simp only [List.setIfInBounds_toArray, List.set_cons_zero, List.set_cons_succ]
              refine take_at (i := 13) (d := 86) (v := undef) rfl rfl (by kernel_rfl) (by kernel_rfl) (by kernel_rfl) (fun _ _ _ h => h) (Or.inr ⟨by rfl, rfl⟩) (by assumption) ?_
              simp only [List.setIfInBounds_toArray, List.set_cons_zero, List.set_cons_succ]
              refine take_at (i := 14) (d := 87) (v := undef) rfl rfl (by kernel_rfl) (by kernel_rfl) (by kernel_rfl) (fun _ _ _ h => h) (Or.inr ⟨by rfl, rfl⟩) (by assumption) ?_
              simp only [List.setIfInBounds_toArray, List.set_cons_zero, List.set_cons_succ]
              refine take_at (i := 15) (d := 88) (v := undef) rfl rfl (by kernel_rfl) (by kernel_rfl) (by kernel_rfl) (fun _ _ _ h => h) (Or.inr ⟨by rfl, rfl⟩) (by assumption) ?_
              simp only [List.setIfInBounds_toArray, List.set_cons_zero, List.set_cons_succ]
              refine take_at (i := 16) (d := 89) (v := ?_) rfl rfl (by kernel_rfl) (by kernel_rfl) (by kernel_rfl) (fun _ _ _ h => h) (Or.inl ⟨by rfl, by intro w' hSw; (try dsimp only at hSw); go_simp; try with_reducible rfl⟩) (by assumption) ?_
              simp only [List.setIfInBounds_toArray, List.set_cons_zero, List.set_cons_succ]
              refine take_at (i := 17) (d := 90) (v := ?_) rfl rfl (by kernel_rfl) (by kernel_rfl) (by kernel_rfl) (fun _ _ _ h => h) (Or.inl ⟨by rfl, by intro w' hSw; (try dsimp only at hSw); go_simp; try with_reducible rfl⟩) (by assumption) ?_
              simp only [List.setIfInBounds_toArray, List.set_cons_zero, List.set_cons_succ]
              refine take_at (i := 18) (d := 8) (v := ?_) rfl rfl (by kernel_rfl) (by kernel_rfl) (by kernel_rfl) (fun _ _ _ h => h) (Or.inl ⟨by rfl, by intro w' hSw; (try dsimp only at hSw); go_simp; try with_reducible rfl⟩) (by assumption) ?_
              simp only [List.setIfInBounds_toArray, List.set_cons_zero, List.set_cons_succ]
              refine wpAnyH_done (by kernel_rfl) ?_ _
              have HBE := Lib.hid (HBT.out.drew.below hb15).base
              clear hb15
              go_wp2
              go_ret
              exact ⟨rfl, HBE.out⟩

theorem walk_reqSame (W : World) (s1 : Int) (ao : Option Addr) (xs : List RQ) (n c : Nat) (hn : xs.length = n) (hx : RqsAt W ao xs) (hc : n ≤ c) (hc' : c ≤ maxLen) (s2 : Int) (bo : Option Addr) (ys : List RQ) (m d : Nat) (hm : ys.length = m) (hy : RqsAt W bo ys) (hd : m ≤ d) (hd' : d ≤ maxLen)
    (P : AN) (ra : Option Addr) (n1 rc1 : Nat) (ea : Option Addr) (m1 ec1 : Nat) (hn1 : P.rs.length = n1) (hm1 : P.es.length = m1) (hr1 : RepsAt W ra P.rs) (he1 : EvsAt W ea P.es) (hc1 : m1 ≤ ec1 ∧ ec1 ≤ maxLen)
    (Q : AN) (rb : Option Addr) (n2 rc2 : Nat) (eb : Option Addr) (m2 ec2 : Nat) (hn2 : Q.rs.length = n2) (hm2 : Q.es.length = m2) (hr2 : RepsAt W rb Q.rs) (he2 : EvsAt W eb Q.es) (hc2 : m2 ≤ ec2 ∧ ec2 ≤ maxLen) :
    Calls Try.prog 8 #[.agg #[.int .i64 s1, .slice ao n c], .agg #[.int .i64 s2, .slice bo m d], .agg #[.int .i64 P.c, .int .i64 P.q, .slice ra n1 rc1, .slice ea m1 ec1], .agg #[.int .i64 Q.c, .int .i64 Q.q, .slice rb n2 rc2, .slice eb m2 ec2]] W fun e w' => e = .returned (.bool true) ∧ Below W.heap.size W w' :=
  same_core W s1 ao xs n c s2 bo ys m d P ra n1 rc1 ea m1 ec1 Q rb n2 rc2 eb m2 ec2 hn hm hx hy ⟨hc, hc'⟩ ⟨hd, hd'⟩ hn1 hm1 hr1 he1 hc1 hn2 hm2 hr2 he2 hc2

end Go.Proofs.Ytadejcpifabpoaa
