/- Comparison of package req's structs; slices.Equal at them. -/
import Derived.Test.YtadejcpifabpoaaReq5
namespace Go.Proofs.Ytadejcpifabpoaa
open Go.RowKit
set_option linter.unusedVariables false

def eqS (a b : ByteArray) : Bool := a.toList == b.toList
def eqRQ (r q : RQ) : Bool := r.k == q.k && (r.t == q.t && (r.a == q.a && (r.n == q.n && (r.i == q.i && (r.d == q.d && (eqS r.h q.h && eqS r.s q.s))))))
def eqEV (r q : EV) : Bool := r.k == q.k && (r.f == q.f && (r.t == q.t && (r.a == q.a && (r.n == q.n && (r.i == q.i && (r.d == q.d && (eqS r.h q.h && eqS r.s q.s)))))))
/-- Are two lists alike, one by one? -/
def allF {α : Type} (f : α → α → Bool) : List α → List α → Bool
  | x :: xs, y :: ys => f x y && allF f xs ys
  | _, _ => true
def allB {α : Type} (f : α → α → Bool) (xs ys : List α) : Bool := decide (xs.length = ys.length) && allF f xs ys
theorem allF_snoc {α : Type} (f : α → α → Bool) : ∀ (xs ys : List α) (k : Nat) (hx : k < xs.length) (hy : k < ys.length), allF f (xs.take (k + 1)) (ys.take (k + 1)) = (allF f (xs.take k) (ys.take k) && f xs[k] ys[k])
  | [], _, k, hx, _ => by simp at hx
  | _ :: _, [], k, _, hy => by simp at hy
  | x :: xs, y :: ys, 0, _, _ => by simp [allF]
  | x :: xs, y :: ys, k + 1, hx, hy => by
    have ih := allF_snoc f xs ys k (by simpa using hx) (by simpa using hy)
    simp only [List.take_succ_cons, allF, ih, List.getElem_cons_succ, Bool.and_assoc]
theorem allF_at {α : Type} (f : α → α → Bool) : ∀ (xs ys : List α) (k : Nat) (hx : k < xs.length) (hy : k < ys.length), f xs[k] ys[k] = false → allF f xs ys = false
  | [], _, k, hx, _, _ => by simp at hx
  | _ :: _, [], k, _, hy, _ => by simp at hy
  | x :: xs, y :: ys, 0, _, _, h => by simp only [List.getElem_cons_zero] at h; simp [allF, h]
  | x :: xs, y :: ys, k + 1, hx, hy, h => by
    have ih := allF_at f xs ys k (by simpa using hx) (by simpa using hy) (by simpa using h)
    simp [allF, ih]

set_option maxRecDepth 100000 in
set_option maxHeartbeats 1000000 in
theorem neq_rq (r q : RQ) (w : World) : (binOp .neq 40 (.agg r.cells) (.agg q.cells)).run Try.prog w = .ok (.bool (!eqRQ r q)) w := by
  unfold RQ.cells eqRQ eqS
  cases h0 : (r.k == q.k)
  · go_simp; try simp [*]
  · skip
    cases h1 : (r.t == q.t)
    · go_simp; try simp [*]
    · skip
      cases h2 : (r.a == q.a)
      · go_simp; try simp [*]
      · skip
        cases h3 : (r.n == q.n)
        · go_simp; try simp [*]
        · skip
          cases h4 : (r.i == q.i)
          · go_simp; try simp [*]
          · skip
            cases h5 : (r.d == q.d)
            · go_simp; try simp [*]
            · skip
              cases h6 : (r.h.toList == q.h.toList)
              · go_simp; try simp [*]
              · skip
                cases h7 : (r.s.toList == q.s.toList)
                · go_simp; try simp [*]
                · go_simp; try simp [*]
set_option maxRecDepth 100000 in
set_option maxHeartbeats 1000000 in
theorem neq_ev (r q : EV) (w : World) : (binOp .neq 84 (.agg r.cells) (.agg q.cells)).run Try.prog w = .ok (.bool (!eqEV r q)) w := by
  unfold EV.cells eqEV eqS
  cases h0 : (r.k == q.k)
  · go_simp; try simp [*]
  · skip
    cases h1 : (r.f == q.f)
    · go_simp; try simp [*]
    · skip
      cases h2 : (r.t == q.t)
      · go_simp; try simp [*]
      · skip
        cases h3 : (r.a == q.a)
        · go_simp; try simp [*]
        · skip
          cases h4 : (r.n == q.n)
          · go_simp; try simp [*]
          · skip
            cases h5 : (r.i == q.i)
            · go_simp; try simp [*]
            · skip
              cases h6 : (r.d == q.d)
              · go_simp; try simp [*]
              · skip
                cases h7 : (r.h.toList == q.h.toList)
                · go_simp; try simp [*]
                · skip
                  cases h8 : (r.s.toList == q.s.toList)
                  · go_simp; try simp [*]
                  · go_simp; try simp [*]

set_option maxRecDepth 100000 in
set_option maxHeartbeats 2000000 in
theorem equal_rq (ao bo : Option Addr) (xs ys : List RQ) (n m c d : Nat) (w : World) (hn : xs.length = n) (hm : ys.length = m) (hx : RqsAt w ao xs) (hy : RqsAt w bo ys) (hnm : n ≤ 1000000 ∧ m ≤ 1000000) :
    Calls Try.prog 62 #[.slice ao n c, .slice bo m d] w fun e w' => e = .returned (.bool (allB eqRQ xs ys)) ∧ Below w.heap.size w w' := by
  have HX := Lib.hid hx
  have HY := Lib.hid hy
  have HN := Lib.hid hn
  have HM := Lib.hid hm
  obtain ⟨hn6, hm6⟩ := hnm
  by_cases hl : n = m
  · subst hl
    have HA : Hid (allB eqRQ xs ys = allF eqRQ xs ys) := Lib.hid (by simp [allB, hn, hm])
    clear hx hy hn hm
    go_enter Try.func62, Try.ntmps62
    go_wp2_with fail
    go_loopw [13] (fun i wr => ∃ k : Nat, k ≤ n ∧ i = .int .i64 k ∧ Below w.heap.size w wr ∧ allF eqRQ (xs.take k) (ys.take k) = true) (fun i _ => n + 1 - (intOf i + 1).toNat)
    case atStart => exact ⟨0, Nat.zero_le _, rfl, Below.refl _ _, rfl⟩
    case round =>
      obtain ⟨k, hk, rfl, hbel, hall⟩ := hrel
      have HBE := Lib.hid hbel
      have HALL := Lib.hid hall
      clear hall
      by_cases hlt : k < n
      · have hkx : k < xs.length := by rw [HN.out]; exact hlt
        have hky : k < ys.length := by rw [HM.out]; exact hlt
        obtain ⟨xb, xoff, rfl, hat⟩ := rq_cells (HX.out.below hbel) k hkx
        obtain ⟨yb, yoff, rfl, hbt⟩ := rq_cells (HY.out.below hbel) k hky
        obtain ⟨c0, c1, c2, c3, c4, c5, c6, c7⟩ := hat.all
        obtain ⟨d0, d1, d2, d3, d4, d5, d6, d7⟩ := hbt.all
        have HSN := Lib.hid (allF_snoc eqRQ xs ys k hkx hky)
        have HAT := Lib.hid (allF_at eqRQ xs ys k hkx hky)
        generalize xs[k] = r at *
        generalize ys[k] = q at *
        have HNE := Lib.hid (fun w1 => neq_rq r q w1)
        have hne := fun w1 => neq_rq r q w1
        unfold RQ.cells at hne
        have HBD := Lib.hid (fun j => HBE.out.trans (Keeps.below ((Keeps.refl (fun _ => False) wr).drewN j) (B := w.heap.size) HBE.out.size (fun _ f => f.elim)))
        clear hat hbt hbel
        have j0 : (0 : Int) ≤ (k : Int) := by omega
        have j1 : (k : Int) < (n : Int) := by omega
        cases hq : eqRQ r q
        · have HQ := Lib.hid hq
          rw [hq] at hne
          clear hq
          go_wp2_with fail
          go_quiet (fail)
          go_wp2
          go_ret
          exact ⟨ret_bool (by rw [HA.out, HAT.out HQ.out]), HBD.out _⟩
        · have HQ := Lib.hid hq
          rw [hq] at hne
          clear hq
          go_wp2_with fail
          go_quiet (fail)
          go_wp2
          go_roundw
          case rel => exact ⟨k + 1, by omega, by go_num, HBD.out _, by rw [HSN.out, HALL.out, HQ.out]; rfl⟩
          case measure => simp [intOf]; omega
      · obtain rfl : k = n := by omega
        have HB := Lib.hid (show allB eqRQ xs ys = true by
          rw [HA.out]
          have h := HALL.out
          rwa [List.take_of_length_le (by rw [HN.out]; exact Nat.le_refl _), List.take_of_length_le (by rw [HM.out]; exact Nat.le_refl _)] at h)
        clear hlt hbel
        go_wp2
        go_ret
        exact ⟨ret_bool HB.out.symm, HBE.out⟩
  · have HA : Hid (allB eqRQ xs ys = false) := Lib.hid (by simp [allB, hn, hm, hl])
    have h1 : ((n : Int) != (m : Int)) = true := by simp; omega
    clear hx hy hn hm hl
    go_enter Try.func62, Try.ntmps62
    go_wp2
    go_ret
    exact ⟨ret_bool HA.out.symm, Below.refl _ _⟩

set_option maxRecDepth 100000 in
set_option maxHeartbeats 2000000 in
theorem equal_ev (ao bo : Option Addr) (xs ys : List EV) (n m c d : Nat) (w : World) (hn : xs.length = n) (hm : ys.length = m) (hx : EvsAt w ao xs) (hy : EvsAt w bo ys) (hnm : n ≤ 1000000 ∧ m ≤ 1000000) :
    Calls Try.prog 64 #[.slice ao n c, .slice bo m d] w fun e w' => e = .returned (.bool (allB eqEV xs ys)) ∧ Below w.heap.size w w' := by
  have HX := Lib.hid hx
  have HY := Lib.hid hy
  have HN := Lib.hid hn
  have HM := Lib.hid hm
  obtain ⟨hn6, hm6⟩ := hnm
  by_cases hl : n = m
  · subst hl
    have HA : Hid (allB eqEV xs ys = allF eqEV xs ys) := Lib.hid (by simp [allB, hn, hm])
    clear hx hy hn hm
    go_enter Try.func64, Try.ntmps64
    go_wp2_with fail
    go_loopw [13] (fun i wr => ∃ k : Nat, k ≤ n ∧ i = .int .i64 k ∧ Below w.heap.size w wr ∧ allF eqEV (xs.take k) (ys.take k) = true) (fun i _ => n + 1 - (intOf i + 1).toNat)
    case atStart => exact ⟨0, Nat.zero_le _, rfl, Below.refl _ _, rfl⟩
    case round =>
      obtain ⟨k, hk, rfl, hbel, hall⟩ := hrel
      have HBE := Lib.hid hbel
      have HALL := Lib.hid hall
      clear hall
      by_cases hlt : k < n
      · have hkx : k < xs.length := by rw [HN.out]; exact hlt
        have hky : k < ys.length := by rw [HM.out]; exact hlt
        obtain ⟨xb, xoff, rfl, hat⟩ := ev_cells (HX.out.below hbel) k hkx
        obtain ⟨yb, yoff, rfl, hbt⟩ := ev_cells (HY.out.below hbel) k hky
        obtain ⟨c0, c1, c2, c3, c4, c5, c6, c7, c8⟩ := hat.all
        obtain ⟨d0, d1, d2, d3, d4, d5, d6, d7, d8⟩ := hbt.all
        have HSN := Lib.hid (allF_snoc eqEV xs ys k hkx hky)
        have HAT := Lib.hid (allF_at eqEV xs ys k hkx hky)
        generalize xs[k] = r at *
        generalize ys[k] = q at *
        have HNE := Lib.hid (fun w1 => neq_ev r q w1)
        have hne := fun w1 => neq_ev r q w1
        unfold EV.cells at hne
        have HBD := Lib.hid (fun j => HBE.out.trans (Keeps.below ((Keeps.refl (fun _ => False) wr).drewN j) (B := w.heap.size) HBE.out.size (fun _ f => f.elim)))
        clear hat hbt hbel
        have j0 : (0 : Int) ≤ (k : Int) := by omega
        have j1 : (k : Int) < (n : Int) := by omega
        cases hq : eqEV r q
        · have HQ := Lib.hid hq
          rw [hq] at hne
          clear hq
          go_wp2_with fail
          go_quiet (fail)
          go_wp2
          go_ret
          exact ⟨ret_bool (by rw [HA.out, HAT.out HQ.out]), HBD.out _⟩
        · have HQ := Lib.hid hq
          rw [hq] at hne
          clear hq
          go_wp2_with fail
          go_quiet (fail)
          go_wp2
          go_roundw
          case rel => exact ⟨k + 1, by omega, by go_num, HBD.out _, by rw [HSN.out, HALL.out, HQ.out]; rfl⟩
          case measure => simp [intOf]; omega
      · obtain rfl : k = n := by omega
        have HB := Lib.hid (show allB eqEV xs ys = true by
          rw [HA.out]
          have h := HALL.out
          rwa [List.take_of_length_le (by rw [HN.out]; exact Nat.le_refl _), List.take_of_length_le (by rw [HM.out]; exact Nat.le_refl _)] at h)
        clear hlt hbel
        go_wp2
        go_ret
        exact ⟨ret_bool HB.out.symm, HBE.out⟩
  · have HA : Hid (allB eqEV xs ys = false) := Lib.hid (by simp [allB, hn, hm, hl])
    have h1 : ((n : Int) != (m : Int)) = true := by simp; omega
    clear hx hy hn hm hl
    go_enter Try.func64, Try.ntmps64
    go_wp2
    go_ret
    exact ⟨ret_bool HA.out.symm, Below.refl _ _⟩

end Go.Proofs.Ytadejcpifabpoaa
