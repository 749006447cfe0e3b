/- Contracts of cflref9.byte8, MayReq, MayEvent. -/
import Derived.Test.YtadejcpifabpoaaReqe
import Derived.Test.YtadejcpifabpoaaBoxz
import Derived.BigRegion
import Derived.Deep.RegionHeld3
import Derived.Deep.CutBlock
import Derived.Deep.DeepCutAuto
namespace Go.Proofs.Ytadejcpifabpoaa
open Go.RowKit
set_option linter.unusedVariables false

theorem Boxes.set {W wr : World} {bs : List (Array Value × TypeId)} (h : Boxes W wr bs) {i : Nat} {cs : Array Value} {T : TypeId} (hi : bs[i]? = some (cs, T)) (j : Nat) (v : Value) :
    Boxes W (wr.setCell ⟨W.heap.size + i, j, none⟩ v) (bs.set i (cs.setIfInBounds j v, T)) := by
  refine ⟨h.base.trans ((((Keeps.refl (fun k => k = W.heap.size + i) wr).setCell (p := ⟨W.heap.size + i, j, none⟩) (Or.inl rfl) v).below (B := W.heap.size) h.base.size (fun k hk => by omega))), fun k cs' T' hk => ?_⟩
  by_cases e : i = k
  · subst e
    have hl : i < bs.length := by
      by_cases hl : i < bs.length
      · exact hl
      · rw [List.getElem?_eq_none (by omega)] at hi; cases hi
    rw [List.getElem?_set_self hl] at hk
    cases hk
    exact blk_set (h.box i cs T hi) j v
  · rw [List.getElem?_set_ne e] at hk
    exact (Below.heap_setCell _ _ _ _ (by show W.heap.size + k ≠ W.heap.size + i; omega)).trans (h.box k cs' T' hk)
def byteB (n : Int) : Bool := decide (0 ≤ n) && decide (n ≤ 255)
theorem byte8_any (n : Int) (w : World) : Calls Try.prog 77 #[.int .i64 n] w fun e w' => e = .returned (.bool (byteB n)) ∧ w = w' := by
  by_cases h : (0 : Int) ≤ n
  · have HB := Lib.hid (show byteB n = decide (n ≤ 255) by simp [byteB, h])
    go_enter Try.func77, Try.ntmps77
    go_wp2
    go_ret
    exact ⟨ret_bool HB.out.symm, rfl⟩
  · have HB := Lib.hid (show byteB n = false by simp [byteB, h])
    go_enter Try.func77, Try.ntmps77
    go_wp2
    go_ret
    exact ⟨ret_bool HB.out.symm, rfl⟩
theorem ramt9_any (n : Int) (w : World) : Calls Try.prog 60 #[.int .i64 n] w fun e w' => e = .returned (.bool (amtB n)) ∧ w = w' := by
  by_cases h : (0 : Int) ≤ n
  · have HB := Lib.hid (show amtB n = decide (n ≤ 4611686018427387904) by simp [amtB, MA, h])
    go_enter Try.func60, Try.ntmps60
    go_wp2
    go_ret
    exact ⟨ret_bool HB.out.symm, rfl⟩
  · have HB := Lib.hid (show amtB n = false by simp [amtB, h])
    go_enter Try.func60, Try.ntmps60
    go_wp2
    go_ret
    exact ⟨ret_bool HB.out.symm, rfl⟩
theorem rtick9_any (n : Int) (w : World) : Calls Try.prog 76 #[.int .i64 n] w fun e w' => e = .returned (.bool (tickB n)) ∧ w = w' := by
  by_cases h : (0 : Int) ≤ n
  · have HB := Lib.hid (show tickB n = decide (n ≤ MT) by simp [tickB, h])
    unfold MT at HB
    go_enter Try.func76, Try.ntmps76
    go_wp2
    go_ret
    exact ⟨ret_bool HB.out.symm, rfl⟩
  · have HB := Lib.hid (show tickB n = false by simp [tickB, h])
    go_enter Try.func76, Try.ntmps76
    go_wp2
    go_ret
    exact ⟨ret_bool HB.out.symm, rfl⟩
set_option maxRecDepth 100000 in
set_option maxHeartbeats 1000000 in
theorem eql_rq (r q : RQ) (w : World) : (binOp .eql 40 (.agg r.cells) (.agg q.cells)).run Try.prog w = .ok (.bool (eqRQ r q)) w := by
  unfold RQ.cells eqRQ eqS
  cases h0 : (r.k == q.k)
  · go_simp; try simp [*]
  · skip
    cases h1 : (r.t == q.t)
    · go_simp; try simp [*]
    · skip
      cases h2 : (r.a == q.a)
      · go_simp; try simp [*]
      · skip
        cases h3 : (r.n == q.n)
        · go_simp; try simp [*]
        · skip
          cases h4 : (r.i == q.i)
          · go_simp; try simp [*]
          · skip
            cases h5 : (r.d == q.d)
            · go_simp; try simp [*]
            · skip
              cases h6 : (r.h.toList == q.h.toList)
              · go_simp; try simp [*]
              · skip
                cases h7 : (r.s.toList == q.s.toList)
                · go_simp; try simp [*]
                · go_simp; try simp [*]
set_option maxRecDepth 100000 in
set_option maxHeartbeats 1000000 in
theorem eql_ev (r q : EV) (w : World) : (binOp .eql 84 (.agg r.cells) (.agg q.cells)).run Try.prog w = .ok (.bool (eqEV r q)) w := by
  unfold EV.cells eqEV eqS
  cases h0 : (r.k == q.k)
  · go_simp; try simp [*]
  · skip
    cases h1 : (r.f == q.f)
    · go_simp; try simp [*]
    · skip
      cases h2 : (r.t == q.t)
      · go_simp; try simp [*]
      · skip
        cases h3 : (r.a == q.a)
        · go_simp; try simp [*]
        · skip
          cases h4 : (r.n == q.n)
          · go_simp; try simp [*]
          · skip
            cases h5 : (r.i == q.i)
            · go_simp; try simp [*]
            · skip
              cases h6 : (r.d == q.d)
              · go_simp; try simp [*]
              · skip
                cases h7 : (r.h.toList == q.h.toList)
                · go_simp; try simp [*]
                · skip
                  cases h8 : (r.s.toList == q.s.toList)
                  · go_simp; try simp [*]
                  · go_simp; try simp [*]
def xReq (r : RQ) : RQ := if r.k = 1 then ⟨r.k, r.t, r.a, r.n, 0, 0, ⟨#[]⟩, ⟨#[]⟩⟩ else if r.k = 2 then ⟨r.k, r.t, r.a, r.n, 0, r.d, r.h, ⟨#[]⟩⟩ else if r.k = 3 then ⟨r.k, 0, 0, 0, r.i, 0, ⟨#[]⟩, r.s⟩ else if r.k = 4 then ⟨r.k, 0, 0, 0, r.i, 0, ⟨#[]⟩, ⟨#[]⟩⟩ else r
def mayRQ (r : RQ) : Bool := (decide (r.k = 1 ∨ r.k = 2 ∨ r.k = 3 ∨ r.k = 4)) && (eqRQ r (xReq r) && byteB r.t && byteB r.a && amtB r.n && decide (0 ≤ r.i) && decide (r.i ≤ 65535) && tickB r.d && (!(r.k == 2) || decide (r.h.size = 32)) && (!(r.k == 3) || decide (r.s.size = 32)))
set_option maxRecDepth 100000 in
set_option maxHeartbeats 4000000 in
theorem mayReq (r : RQ) (W : World) : Calls Try.prog 69 #[.agg r.cells] W fun e w' => e = .returned (.bool (mayRQ r)) ∧ Below W.heap.size W w' := by
  have HW0 : Hid (∀ q : RQ, ∀ wx, wx = (W.alloc (.cells r.cells 40)).alloc (.cells q.cells 40) → Boxes W wx [(r.cells, 40), (q.cells, 40)]) := Lib.hid (fun q wx h => by
    subst h
    exact ((Boxes.nil W).push (by simp) r.cells 40).push (by simp) q.cells 40)
  have HD : Hid (∀ b : Bool, mayRQ r = b → mayRQ r = b) := Lib.hid (fun _ h => h)
  unfold RQ.cells
  go_enter Try.func69, Try.ntmps69
  go_upto_block 0 with fail
  obtain ⟨w2, hw2⟩ : ∃ w2, w2 = (W.alloc (.cells r.cells 40)).alloc (.cells (⟨r.k, 0, 0, 0, 0, 0, ⟨#[]⟩, ⟨#[]⟩⟩ : RQ).cells 40) := ⟨_, rfl⟩
  have HB2 := Lib.hid (HW0.out ⟨r.k, 0, 0, 0, 0, 0, ⟨#[]⟩, ⟨#[]⟩⟩ w2 hw2)
  unfold RQ.cells at hw2
  rw [← hw2]
  clear hw2
  have HRC : Hid (∀ w' cs, Boxes W w' [(r.cells, 40), (cs, 40)] → w'.cell? ⟨W.heap.size, 0, none⟩ = some (.int .i64 r.k) ∧ w'.cell? ⟨W.heap.size, 1, none⟩ = some (.int .i64 r.t) ∧ w'.cell? ⟨W.heap.size, 2, none⟩ = some (.int .i64 r.a) ∧ w'.cell? ⟨W.heap.size, 3, none⟩ = some (.int .i64 r.n) ∧ w'.cell? ⟨W.heap.size, 4, none⟩ = some (.int .i64 r.i) ∧ w'.cell? ⟨W.heap.size, 5, none⟩ = some (.int .i64 r.d) ∧ w'.cell? ⟨W.heap.size, 6, none⟩ = some (.string r.h) ∧ w'.cell? ⟨W.heap.size, 7, none⟩ = some (.string r.s)) := Lib.hid (fun w' cs h => ⟨h.cell 0 0 rfl, h.cell 0 1 rfl, h.cell 0 2 rfl, h.cell 0 3 rfl, h.cell 0 4 rfl, h.cell 0 5 rfl, h.cell 0 6 rfl, h.cell 0 7 rfl⟩)
  have hb2l : W.heap.size + 1 < w2.heap.size := blk_lt (HB2.out.box 1 _ _ rfl)
  go_cut [] (fun wx => (r.k = 1 ∨ r.k = 2 ∨ r.k = 3 ∨ r.k = 4) ∧ Boxes W wx [(r.cells, 40), ((xReq r).cells, 40)])
  case first =>
    obtain ⟨a0, a1, a2, a3, a4, a5, a6, a7⟩ := HRC.out w2 _ HB2.out
    have b1 := HB2.out.cell 1 1 rfl
    have g1 := blk_frozen (HB2.out.box 1 _ _ rfl) 1
    have b2 := HB2.out.cell 1 2 rfl
    have g2 := blk_frozen (HB2.out.box 1 _ _ rfl) 2
    have b3 := HB2.out.cell 1 3 rfl
    have g3 := blk_frozen (HB2.out.box 1 _ _ rfl) 3
    have b4 := HB2.out.cell 1 4 rfl
    have g4 := blk_frozen (HB2.out.box 1 _ _ rfl) 4
    have b5 := HB2.out.cell 1 5 rfl
    have g5 := blk_frozen (HB2.out.box 1 _ _ rfl) 5
    have b6 := HB2.out.cell 1 6 rfl
    have g6 := blk_frozen (HB2.out.box 1 _ _ rfl) 6
    have b7 := HB2.out.cell 1 7 rfl
    have g7 := blk_frozen (HB2.out.box 1 _ _ rfl) 7
    simp only [RQ.cells, List.getElem?_toArray, List.getElem?_cons_zero, List.getElem?_cons_succ] at b1 b2 b3 b4 b5 b6 b7
    cases k1 : (r.k == 1)
    case' true =>
      have e1 : r.k = 1 := by simpa using k1
      have HX : Hid (xReq r = ⟨r.k, r.t, r.a, r.n, 0, 0, ⟨#[]⟩, ⟨#[]⟩⟩) := Lib.hid (by unfold xReq; simp [e1])
      have HKK := Lib.hid e1
      clear e1
      go_wp2_with fail
      go_region_held3 (fun w' => w'.cell? ⟨W.heap.size, 1, none⟩ = some (.int .i64 r.t) ∧ w'.cell? ⟨W.heap.size, 2, none⟩ = some (.int .i64 r.a) ∧ w'.cell? ⟨W.heap.size, 3, none⟩ = some (.int .i64 r.n)) (go_keep) (fail)
      all_goals
        go_wp2_with fail
        go_meet
        case rel =>
          refine ⟨Or.inl HKK.out, ?_⟩
          rw [HX.out]
          have h := (((HB2.out.set (i := 1) rfl 1 (.int .i64 r.t)).set (i := 1) rfl 2 (.int .i64 r.a)).set (i := 1) rfl 3 (.int .i64 r.n)).drew
          simpa [RQ.cells] using h
    have n1 : Hid (r.k ≠ 1) := Lib.hid (by simpa using k1)
    cases k2 : (r.k == 2)
    case' true =>
      have e2 : r.k = 2 := by simpa using k2
      have HX : Hid (xReq r = ⟨r.k, r.t, r.a, r.n, 0, r.d, r.h, ⟨#[]⟩⟩) := Lib.hid (by unfold xReq; simp [e2])
      have HKK := Lib.hid e2
      clear e2
      go_wp2_with fail
      go_region_held3 (fun w' => w'.cell? ⟨W.heap.size, 1, none⟩ = some (.int .i64 r.t) ∧ w'.cell? ⟨W.heap.size, 2, none⟩ = some (.int .i64 r.a) ∧ w'.cell? ⟨W.heap.size, 3, none⟩ = some (.int .i64 r.n) ∧ w'.cell? ⟨W.heap.size, 6, none⟩ = some (.string r.h) ∧ w'.cell? ⟨W.heap.size, 5, none⟩ = some (.int .i64 r.d)) (go_keep) (fail)
      all_goals
        go_wp2_with fail
        go_meet
        case rel =>
          refine ⟨Or.inr (Or.inl HKK.out), ?_⟩
          rw [HX.out]
          have h := (((((HB2.out.set (i := 1) rfl 1 (.int .i64 r.t)).set (i := 1) rfl 2 (.int .i64 r.a)).set (i := 1) rfl 3 (.int .i64 r.n)).set (i := 1) rfl 6 (.string r.h)).set (i := 1) rfl 5 (.int .i64 r.d)).drew
          simpa [RQ.cells] using h
    have n2 : Hid (r.k ≠ 2) := Lib.hid (by simpa using k2)
    cases k3 : (r.k == 3)
    case' true =>
      have e3 : r.k = 3 := by simpa using k3
      have HX : Hid (xReq r = ⟨r.k, 0, 0, 0, r.i, 0, ⟨#[]⟩, r.s⟩) := Lib.hid (by unfold xReq; simp [e3])
      have HKK := Lib.hid e3
      clear e3
      go_wp2_with fail
      go_region_held3 (fun w' => w'.cell? ⟨W.heap.size, 4, none⟩ = some (.int .i64 r.i) ∧ w'.cell? ⟨W.heap.size, 7, none⟩ = some (.string r.s)) (go_keep) (fail)
      all_goals
        go_wp2_with fail
        go_meet
        case rel =>
          refine ⟨Or.inr (Or.inr (Or.inl HKK.out)), ?_⟩
          rw [HX.out]
          have h := ((HB2.out.set (i := 1) rfl 4 (.int .i64 r.i)).set (i := 1) rfl 7 (.string r.s)).drew
          simpa [RQ.cells] using h
    have n3 : Hid (r.k ≠ 3) := Lib.hid (by simpa using k3)
    cases k4 : (r.k == 4)
    case' true =>
      have e4 : r.k = 4 := by simpa using k4
      have HX : Hid (xReq r = ⟨r.k, 0, 0, 0, r.i, 0, ⟨#[]⟩, ⟨#[]⟩⟩) := Lib.hid (by unfold xReq; simp [e4])
      have HKK := Lib.hid e4
      clear e4
      go_wp2_with fail
      all_goals
        go_wp2_with fail
        go_meet
        case rel =>
          refine ⟨Or.inr (Or.inr (Or.inr HKK.out)), ?_⟩
          rw [HX.out]
          have h := (HB2.out.set (i := 1) rfl 4 (.int .i64 r.i))
          simpa [RQ.cells] using h
    have n4 : Hid (r.k ≠ 4) := Lib.hid (by simpa using k4)
    go_wp2
    go_ret
    exact ⟨ret_bool (by unfold mayRQ; simp [n1.out, n2.out, n3.out, n4.out]), HB2.out.base⟩
  case rest =>
    obtain ⟨hk, hb⟩ := hcut
    have HB := Lib.hid hb
    obtain ⟨a0, a1, a2, a3, a4, a5, a6, a7⟩ := HRC.out _ _ hb
    have HRET : Hid (mayRQ r = (eqRQ r (xReq r) && byteB r.t && byteB r.a && amtB r.n && decide (0 ≤ r.i) && decide (r.i ≤ 65535) && tickB r.d && (!(r.k == 2) || decide (r.h.size = 32)) && (!(r.k == 3) || decide (r.s.size = 32)))) := Lib.hid (by unfold mayRQ; rw [decide_eq_true hk, Bool.true_and])
    have HBASE := Lib.hid hb.base
    clear hk hb HB2 hb2l
    generalize hq : xReq r = q at *
    clear hq
    have b0 := HB.out.cell 1 0 rfl
    have b1 := HB.out.cell 1 1 rfl
    have b2 := HB.out.cell 1 2 rfl
    have b3 := HB.out.cell 1 3 rfl
    have b4 := HB.out.cell 1 4 rfl
    have b5 := HB.out.cell 1 5 rfl
    have b6 := HB.out.cell 1 6 rfl
    have b7 := HB.out.cell 1 7 rfl
    simp only [RQ.cells, List.getElem?_toArray, List.getElem?_cons_zero, List.getElem?_cons_succ] at b0 b1 b2 b3 b4 b5 b6 b7
    have heq := fun w1 => eql_rq r q w1
    unfold RQ.cells at heq
    cases q0 : (eqRQ r q)
    case' false =>
      have Q0 := Lib.hid q0
      simp only [q0] at heq
      go_wp2_with (first | (go_at_call 77; refine (byte8_any _ _).mono ?_; rintro e w' ⟨rfl, rfl⟩) | (go_at_call 60; refine (ramt9_any _ _).mono ?_; rintro e w' ⟨rfl, rfl⟩) | (go_at_call 76; refine (rtick9_any _ _).mono ?_; rintro e w' ⟨rfl, rfl⟩))
      go_ret
      exact ⟨ret_bool (by rw [HRET.out]; simp [Q0.out]), HBASE.out⟩
    have Q0 := Lib.hid q0
    simp only [q0] at heq
    cases q1 : (byteB r.t)
    case' false =>
      have Q1 := Lib.hid q1
      go_wp2_with (first | (go_at_call 77; refine (byte8_any _ _).mono ?_; rintro e w' ⟨rfl, rfl⟩) | (go_at_call 60; refine (ramt9_any _ _).mono ?_; rintro e w' ⟨rfl, rfl⟩) | (go_at_call 76; refine (rtick9_any _ _).mono ?_; rintro e w' ⟨rfl, rfl⟩))
      go_ret
      exact ⟨ret_bool (by rw [HRET.out]; simp [Q0.out, Q1.out]), HBASE.out⟩
    have Q1 := Lib.hid q1
    cases q2 : (byteB r.a)
    case' false =>
      have Q2 := Lib.hid q2
      go_wp2_with (first | (go_at_call 77; refine (byte8_any _ _).mono ?_; rintro e w' ⟨rfl, rfl⟩) | (go_at_call 60; refine (ramt9_any _ _).mono ?_; rintro e w' ⟨rfl, rfl⟩) | (go_at_call 76; refine (rtick9_any _ _).mono ?_; rintro e w' ⟨rfl, rfl⟩))
      go_ret
      exact ⟨ret_bool (by rw [HRET.out]; simp [Q0.out, Q1.out, Q2.out]), HBASE.out⟩
    have Q2 := Lib.hid q2
    cases q3 : (amtB r.n)
    case' false =>
      have Q3 := Lib.hid q3
      go_wp2_with (first | (go_at_call 77; refine (byte8_any _ _).mono ?_; rintro e w' ⟨rfl, rfl⟩) | (go_at_call 60; refine (ramt9_any _ _).mono ?_; rintro e w' ⟨rfl, rfl⟩) | (go_at_call 76; refine (rtick9_any _ _).mono ?_; rintro e w' ⟨rfl, rfl⟩))
      go_ret
      exact ⟨ret_bool (by rw [HRET.out]; simp [Q0.out, Q1.out, Q2.out, Q3.out]), HBASE.out⟩
    have Q3 := Lib.hid q3
    cases q4 : (decide (0 ≤ r.i))
    case' false =>
      have Q4 := Lib.hid q4
      simp only [decide_eq_false_iff_not] at q4
      go_wp2_with (first | (go_at_call 77; refine (byte8_any _ _).mono ?_; rintro e w' ⟨rfl, rfl⟩) | (go_at_call 60; refine (ramt9_any _ _).mono ?_; rintro e w' ⟨rfl, rfl⟩) | (go_at_call 76; refine (rtick9_any _ _).mono ?_; rintro e w' ⟨rfl, rfl⟩))
      go_ret
      exact ⟨ret_bool (by rw [HRET.out]; simp [Q0.out, Q1.out, Q2.out, Q3.out, Q4.out]), HBASE.out⟩
    have Q4 := Lib.hid q4
    simp only [decide_eq_true_eq] at q4
    cases q5 : (decide (r.i ≤ 65535))
    case' false =>
      have Q5 := Lib.hid q5
      simp only [decide_eq_false_iff_not] at q5
      go_wp2_with (first | (go_at_call 77; refine (byte8_any _ _).mono ?_; rintro e w' ⟨rfl, rfl⟩) | (go_at_call 60; refine (ramt9_any _ _).mono ?_; rintro e w' ⟨rfl, rfl⟩) | (go_at_call 76; refine (rtick9_any _ _).mono ?_; rintro e w' ⟨rfl, rfl⟩))
      go_ret
      exact ⟨ret_bool (by rw [HRET.out]; simp [Q0.out, Q1.out, Q2.out, Q3.out, Q4.out, Q5.out]), HBASE.out⟩
    have Q5 := Lib.hid q5
    simp only [decide_eq_true_eq] at q5
    cases q6 : (tickB r.d)
    case' false =>
      have Q6 := Lib.hid q6
      go_wp2_with (first | (go_at_call 77; refine (byte8_any _ _).mono ?_; rintro e w' ⟨rfl, rfl⟩) | (go_at_call 60; refine (ramt9_any _ _).mono ?_; rintro e w' ⟨rfl, rfl⟩) | (go_at_call 76; refine (rtick9_any _ _).mono ?_; rintro e w' ⟨rfl, rfl⟩))
      go_ret
      exact ⟨ret_bool (by rw [HRET.out]; simp [Q0.out, Q1.out, Q2.out, Q3.out, Q4.out, Q5.out, Q6.out]), HBASE.out⟩
    have Q6 := Lib.hid q6
    have HK2 : Hid ((r.k == 2) = true → (r.k == 3) = false) := Lib.hid (fun h => by simp only [beq_iff_eq] at h; simp [h])
    cases k2 : (r.k == 2)
    case' false =>
      have K2 := Lib.hid k2
      have k2' : (r.k != 2) = true := by simp [bne, k2]
      cases k3 : (r.k == 3)
      case' false =>
        have K3 := Lib.hid k3
        have k3' : (r.k != 3) = true := by simp [bne, k3]
        go_wp2_with (first | (go_at_call 77; refine (byte8_any _ _).mono ?_; rintro e w' ⟨rfl, rfl⟩) | (go_at_call 60; refine (ramt9_any _ _).mono ?_; rintro e w' ⟨rfl, rfl⟩) | (go_at_call 76; refine (rtick9_any _ _).mono ?_; rintro e w' ⟨rfl, rfl⟩))
        go_ret
        exact ⟨ret_bool (by rw [HRET.out]; simp [Q0.out, Q1.out, Q2.out, Q3.out, Q4.out, Q5.out, Q6.out, K2.out, K3.out]), HBASE.out⟩
      have K3 := Lib.hid k3
      have k3' : (r.k != 3) = false := by simp [bne, k3]
      cases s3 : ((r.s.size : Int) == 32)
      case' false =>
        have S3 : Hid (decide (r.s.size = 32) = false) := Lib.hid (by simp only [beq_eq_false_iff_ne, ne_eq] at s3; exact decide_eq_false (by omega))
        go_wp2_with (first | (go_at_call 77; refine (byte8_any _ _).mono ?_; rintro e w' ⟨rfl, rfl⟩) | (go_at_call 60; refine (ramt9_any _ _).mono ?_; rintro e w' ⟨rfl, rfl⟩) | (go_at_call 76; refine (rtick9_any _ _).mono ?_; rintro e w' ⟨rfl, rfl⟩))
        go_ret
        exact ⟨ret_bool (by rw [HRET.out]; simp [Q0.out, Q1.out, Q2.out, Q3.out, Q4.out, Q5.out, Q6.out, K2.out, K3.out, S3.out]), HBASE.out⟩
      have S3 : Hid (decide (r.s.size = 32) = true) := Lib.hid (by simp only [beq_iff_eq] at s3; exact decide_eq_true (by omega))
      go_wp2_with (first | (go_at_call 77; refine (byte8_any _ _).mono ?_; rintro e w' ⟨rfl, rfl⟩) | (go_at_call 60; refine (ramt9_any _ _).mono ?_; rintro e w' ⟨rfl, rfl⟩) | (go_at_call 76; refine (rtick9_any _ _).mono ?_; rintro e w' ⟨rfl, rfl⟩))
      go_ret
      exact ⟨ret_bool (by rw [HRET.out]; simp [Q0.out, Q1.out, Q2.out, Q3.out, Q4.out, Q5.out, Q6.out, K2.out, K3.out, S3.out]), HBASE.out⟩
    have K2 := Lib.hid k2
    have k3 := HK2.out k2
    have K3 := Lib.hid k3
    have k2' : (r.k != 2) = false := by simp [bne, k2]
    have k3' : (r.k != 3) = true := by simp [bne, k3]
    cases s2 : ((r.h.size : Int) == 32)
    case' false =>
      have S2 : Hid (decide (r.h.size = 32) = false) := Lib.hid (by simp only [beq_eq_false_iff_ne, ne_eq] at s2; exact decide_eq_false (by omega))
      go_wp2_with (first | (go_at_call 77; refine (byte8_any _ _).mono ?_; rintro e w' ⟨rfl, rfl⟩) | (go_at_call 60; refine (ramt9_any _ _).mono ?_; rintro e w' ⟨rfl, rfl⟩) | (go_at_call 76; refine (rtick9_any _ _).mono ?_; rintro e w' ⟨rfl, rfl⟩))
      go_ret
      exact ⟨ret_bool (by rw [HRET.out]; simp [Q0.out, Q1.out, Q2.out, Q3.out, Q4.out, Q5.out, Q6.out, K2.out, K3.out, S2.out]), HBASE.out⟩
    have S2 : Hid (decide (r.h.size = 32) = true) := Lib.hid (by simp only [beq_iff_eq] at s2; exact decide_eq_true (by omega))
    go_wp2_with (first | (go_at_call 77; refine (byte8_any _ _).mono ?_; rintro e w' ⟨rfl, rfl⟩) | (go_at_call 60; refine (ramt9_any _ _).mono ?_; rintro e w' ⟨rfl, rfl⟩) | (go_at_call 76; refine (rtick9_any _ _).mono ?_; rintro e w' ⟨rfl, rfl⟩))
    go_ret
    exact ⟨ret_bool (by rw [HRET.out]; simp [Q0.out, Q1.out, Q2.out, Q3.out, Q4.out, Q5.out, Q6.out, K2.out, K3.out, S2.out]), HBASE.out⟩

end Go.Proofs.Ytadejcpifabpoaa
