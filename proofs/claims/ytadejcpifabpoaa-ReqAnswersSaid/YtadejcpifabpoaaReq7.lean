/- Comparison of replies, batches and answers. -/
import Derived.Test.YtadejcpifabpoaaReq6
namespace Go.Proofs.Ytadejcpifabpoaa
open Go.RowKit
set_option linter.unusedVariables false

def RP.cells (r : Int × Int) : Array Value := #[.int .i64 r.1, .int .i64 r.2]
def RP.at_ (r : Int × Int) (w : World) (b o : Nat) : Prop := w.cell? ⟨b, o, none⟩ = some (.int .i64 r.1) ∧ w.cell? ⟨b, o + 1, none⟩ = some (.int .i64 r.2)
theorem RP.at_.all {r : Int × Int} {w : World} {b o : Nat} (h : RP.at_ r w b o) : w.cell? ⟨b, o, none⟩ = some (.int .i64 r.1) ∧ w.cell? ⟨b, o + 1, none⟩ = some (.int .i64 r.2) := h
theorem rep_cells2 {w : World} {ao : Option Addr} {rs : List (Int × Int)} (h : RepsAt w ao rs) (i : Nat) (hi : i < rs.length) : ∃ b off, ao = some ⟨b, off, none⟩ ∧ RP.at_ rs[i] w b (off + i * 2) := rep_cells h i hi
def eqRP (r q : Int × Int) : Bool := r.1 == q.1 && r.2 == q.2
def sameB (s1 : Int) (xs : List RQ) (s2 : Int) (ys : List RQ) : Bool := s1 == s2 && allB eqRQ xs ys
def sameA (c1 s1 : Int) (xs : List (Int × Int)) (es : List EV) (c2 s2 : Int) (ys : List (Int × Int)) (fs : List EV) : Bool := c1 == c2 && (s1 == s2 && (allB eqRP xs ys && allB eqEV es fs))

set_option maxRecDepth 100000 in
set_option maxHeartbeats 1000000 in
theorem neq_rep (r q : Int × Int) (w : World) : (binOp .neq 94 (.agg (RP.cells r)) (.agg (RP.cells q))).run Try.prog w = .ok (.bool (!eqRP r q)) w := by
  unfold RP.cells eqRP
  cases h0 : (r.1 == q.1)
  · go_simp; try simp [*]
  · skip
    cases h1 : (r.2 == q.2)
    · go_simp; try simp [*]
    · go_simp; try simp [*]

set_option maxRecDepth 100000 in
set_option maxHeartbeats 2000000 in
theorem equal_rep (ao bo : Option Addr) (xs ys : List (Int × Int)) (n m c d : Nat) (w : World) (hn : xs.length = n) (hm : ys.length = m) (hx : RepsAt w ao xs) (hy : RepsAt w bo ys) (hnm : n ≤ 1000000 ∧ m ≤ 1000000) :
    Calls Try.prog 63 #[.slice ao n c, .slice bo m d] w fun e w' => e = .returned (.bool (allB eqRP xs ys)) ∧ Below w.heap.size w w' := by
  have HX := Lib.hid hx
  have HY := Lib.hid hy
  have HN := Lib.hid hn
  have HM := Lib.hid hm
  obtain ⟨hn6, hm6⟩ := hnm
  by_cases hl : n = m
  · subst hl
    have HA : Hid (allB eqRP xs ys = allF eqRP xs ys) := Lib.hid (by simp [allB, hn, hm])
    clear hx hy hn hm
    go_enter Try.func63, Try.ntmps63
    go_wp2_with fail
    go_loopw [13] (fun i wr => ∃ k : Nat, k ≤ n ∧ i = .int .i64 k ∧ Below w.heap.size w wr ∧ allF eqRP (xs.take k) (ys.take k) = true) (fun i _ => n + 1 - (intOf i + 1).toNat)
    case atStart => exact ⟨0, Nat.zero_le _, rfl, Below.refl _ _, rfl⟩
    case round =>
      obtain ⟨k, hk, rfl, hbel, hall⟩ := hrel
      have HBE := Lib.hid hbel
      have HALL := Lib.hid hall
      clear hall
      by_cases hlt : k < n
      · have hkx : k < xs.length := by rw [HN.out]; exact hlt
        have hky : k < ys.length := by rw [HM.out]; exact hlt
        obtain ⟨xb, xoff, rfl, hat⟩ := rep_cells2 (HX.out.below hbel) k hkx
        obtain ⟨yb, yoff, rfl, hbt⟩ := rep_cells2 (HY.out.below hbel) k hky
        obtain ⟨c0, c1⟩ := hat.all
        obtain ⟨d0, d1⟩ := hbt.all
        have HSN := Lib.hid (allF_snoc eqRP xs ys k hkx hky)
        have HAT := Lib.hid (allF_at eqRP xs ys k hkx hky)
        generalize xs[k] = r at *
        generalize ys[k] = q at *
        have HNE := Lib.hid (fun w1 => neq_rep r q w1)
        have hne := fun w1 => neq_rep r q w1
        unfold RP.cells at hne
        have HBD := Lib.hid (fun j => HBE.out.trans (Keeps.below ((Keeps.refl (fun _ => False) wr).drewN j) (B := w.heap.size) HBE.out.size (fun _ f => f.elim)))
        clear hat hbt hbel
        have j0 : (0 : Int) ≤ (k : Int) := by omega
        have j1 : (k : Int) < (n : Int) := by omega
        cases hq : eqRP r q
        · have HQ := Lib.hid hq
          rw [hq] at hne
          clear hq
          go_wp2_with fail
          go_quiet (fail)
          go_wp2
          go_ret
          exact ⟨ret_bool (by rw [HA.out, HAT.out HQ.out]), HBD.out _⟩
        · have HQ := Lib.hid hq
          rw [hq] at hne
          clear hq
          go_wp2_with fail
          go_quiet (fail)
          go_wp2
          go_roundw
          case rel => exact ⟨k + 1, by omega, by go_num, HBD.out _, by rw [HSN.out, HALL.out, HQ.out]; rfl⟩
          case measure => simp [intOf]; omega
      · obtain rfl : k = n := by omega
        have HB := Lib.hid (show allB eqRP xs ys = true by
          rw [HA.out]
          have h := HALL.out
          rwa [List.take_of_length_le (by rw [HN.out]; exact Nat.le_refl _), List.take_of_length_le (by rw [HM.out]; exact Nat.le_refl _)] at h)
        clear hlt hbel
        go_wp2
        go_ret
        exact ⟨ret_bool HB.out.symm, HBE.out⟩
  · have HA : Hid (allB eqRP xs ys = false) := Lib.hid (by simp [allB, hn, hm, hl])
    have h1 : ((n : Int) != (m : Int)) = true := by simp; omega
    clear hx hy hn hm hl
    go_enter Try.func63, Try.ntmps63
    go_wp2
    go_ret
    exact ⟨ret_bool HA.out.symm, Below.refl _ _⟩

set_option maxRecDepth 100000 in
set_option maxHeartbeats 2000000 in
theorem sameBatch (s1 : Int) (ao : Option Addr) (xs : List RQ) (n c : Nat) (s2 : Int) (bo : Option Addr) (ys : List RQ) (m d : Nat) (w : World) (hn : xs.length = n) (hm : ys.length = m) (hx : RqsAt w ao xs) (hy : RqsAt w bo ys) (hnm : n ≤ 1000000 ∧ m ≤ 1000000) :
    Calls Try.prog 36 #[.agg #[.int .i64 s1, .slice ao n c], .agg #[.int .i64 s2, .slice bo m d]] w fun e w' => e = .returned (.bool (sameB s1 xs s2 ys)) ∧ Below w.heap.size w w' := by
  obtain ⟨w2, hw2⟩ : ∃ w2, w2 = (w.alloc (.cells #[.int .i64 s1, .slice ao n c] 46)).alloc (.cells #[.int .i64 s2, .slice bo m d] 46) := ⟨_, rfl⟩
  have HB2 : Hid (Below w.heap.size w w2) := Lib.hid (by subst hw2; exact ((Below.refl _ _).alloc (Nat.le_refl _) _).alloc (by simp) _)
  have HE := Lib.hid (equal_rq ao bo xs ys n m c d w2 hn hm (hx.below HB2.out) (hy.below HB2.out) hnm)
  have HW2 := Lib.hid hw2
  clear hn hm hx hy hw2
  cases hs : (s1 == s2)
  · have HS := Lib.hid (show sameB s1 xs s2 ys = false by simp [sameB, hs])
    go_enter Try.func36, Try.ntmps36
    go_wp2
    go_ret
    exact ⟨ret_bool HS.out.symm, by have := HB2.out; rw [HW2.out] at this; exact this⟩
  · have HS := Lib.hid (show sameB s1 xs s2 ys = allB eqRQ xs ys by simp [sameB, hs])
    go_enter Try.func36, Try.ntmps36
    go_wp2_with (go_at_call 62; rw [← HW2.out]; refine HE.out.mono ?_; rintro e w' ⟨rfl, hb⟩; have HB := Lib.hid hb; clear hb)
    go_ret
    exact ⟨ret_bool HS.out.symm, HB2.out.trans (HB.out.mono HB2.out.size)⟩

set_option maxRecDepth 100000 in
set_option maxHeartbeats 2000000 in
theorem sameAnswer (c1 s1 : Int) (ra : Option Addr) (xs : List (Int × Int)) (n rc : Nat) (ea : Option Addr) (es : List EV) (m ec : Nat) (c2 s2 : Int) (rb : Option Addr) (ys : List (Int × Int)) (n' rc' : Nat) (eb : Option Addr) (fs : List EV) (m' ec' : Nat) (w : World) (hn : xs.length = n) (hm : es.length = m) (hn' : ys.length = n') (hm' : fs.length = m')
    (hx : RepsAt w ra xs) (hy : RepsAt w rb ys) (he : EvsAt w ea es) (hf : EvsAt w eb fs) (hnm : n ≤ 1000000 ∧ n' ≤ 1000000) (hmm : m ≤ 1000000 ∧ m' ≤ 1000000) :
    Calls Try.prog 37 #[.agg #[.int .i64 c1, .int .i64 s1, .slice ra n rc, .slice ea m ec], .agg #[.int .i64 c2, .int .i64 s2, .slice rb n' rc', .slice eb m' ec']] w fun e w' => e = .returned (.bool (sameA c1 s1 xs es c2 s2 ys fs)) ∧ Below w.heap.size w w' := by
  obtain ⟨w2, hw2⟩ : ∃ w2, w2 = (w.alloc (.cells #[.int .i64 c1, .int .i64 s1, .slice ra n rc, .slice ea m ec] 57)).alloc (.cells #[.int .i64 c2, .int .i64 s2, .slice rb n' rc', .slice eb m' ec'] 57) := ⟨_, rfl⟩
  have HB2 : Hid (Below w.heap.size w w2) := Lib.hid (by subst hw2; exact ((Below.refl _ _).alloc (Nat.le_refl _) _).alloc (by simp) _)
  have HE := Lib.hid (equal_rep ra rb xs ys n n' rc rc' w2 hn hn' (hx.below HB2.out) (hy.below HB2.out) hnm)
  have HF := Lib.hid (fun (w' : World) (hb : Below w.heap.size w w') => equal_ev ea eb es fs m m' ec ec' w' hm hm' (he.below hb) (hf.below hb) hmm)
  have HX1 : Hid (w2.heap[w.heap.size]? = some (.cells #[.int .i64 c1, .int .i64 s1, .slice ra n rc, .slice ea m ec] 57 (0, 0))) := Lib.hid (by
    subst hw2; exact (Below.heap_alloc _ _ _ (by simp)).trans (heap_alloc_new w _))
  have HX2 : Hid (w2.heap[w.heap.size + 1]? = some (.cells #[.int .i64 c2, .int .i64 s2, .slice rb n' rc', .slice eb m' ec'] 57 (0, 0))) := Lib.hid (by
    subst hw2; have := heap_alloc_new (w.alloc (.cells #[.int .i64 c1, .int .i64 s1, .slice ra n rc, .slice ea m ec] 57)) (.cells #[.int .i64 c2, .int .i64 s2, .slice rb n' rc', .slice eb m' ec'] 57); simpa using this)
  have HC : Hid (∀ w', Below w2.heap.size w2 w' → (w'.cell? ⟨w.heap.size, 3, none⟩ = some (.slice ea m ec) ∧ w'.cell? ⟨w.heap.size + 1, 3, none⟩ = some (.slice eb m' ec'))) := Lib.hid (fun w' hb => by
    refine ⟨?_, ?_⟩
    · rw [blk_cell ((hb.block w.heap.size (blk_lt HX1.out)).trans HX1.out)]; rfl
    · rw [blk_cell ((hb.block (w.heap.size + 1) (blk_lt HX2.out)).trans HX2.out)]; rfl)
  have HW2 := Lib.hid hw2
  clear hn hm hn' hm' hx hy he hf hw2
  cases hc : (c1 == c2)
  · have HS := Lib.hid (show sameA c1 s1 xs es c2 s2 ys fs = false by simp [sameA, hc])
    go_enter Try.func37, Try.ntmps37
    go_wp2
    go_ret
    exact ⟨ret_bool HS.out.symm, by have := HB2.out; rw [HW2.out] at this; exact this⟩
  · cases hs : (s1 == s2)
    · have HS := Lib.hid (show sameA c1 s1 xs es c2 s2 ys fs = false by simp [sameA, hs])
      go_enter Try.func37, Try.ntmps37
      go_wp2
      go_ret
      exact ⟨ret_bool HS.out.symm, by have := HB2.out; rw [HW2.out] at this; exact this⟩
    · cases hr : allB eqRP xs ys
      · have HS := Lib.hid (show sameA c1 s1 xs es c2 s2 ys fs = false by simp [sameA, hr])
        have HR := Lib.hid hr
        clear hr
        go_enter Try.func37, Try.ntmps37
        go_wp2_with (go_at_call 63; rw [← HW2.out]; refine HE.out.mono ?_; rintro e w' ⟨rfl, hb⟩; have HB := Lib.hid hb; clear hb; rw [HR.out])
        go_ret
        exact ⟨ret_bool HS.out.symm, HB2.out.trans (HB.out.mono HB2.out.size)⟩
      · have HS := Lib.hid (show sameA c1 s1 xs es c2 s2 ys fs = allB eqEV es fs by simp [sameA, hc, hs, hr])
        have HR := Lib.hid hr
        clear hr
        go_enter Try.func37, Try.ntmps37
        go_wp2_with (first
          | (go_at_call 63; rw [← HW2.out]; refine HE.out.mono ?_; rintro e w' ⟨rfl, hb⟩; have HB := Lib.hid hb; obtain ⟨z0, z1⟩ := HC.out w' hb; clear hb; rw [HR.out])
          | (go_at_call 64; refine (HF.out _ (HB2.out.trans (HB.out.mono HB2.out.size))).mono ?_; rintro e w3 ⟨rfl, hb3⟩; have HB3 := Lib.hid hb3; clear hb3))
        go_ret
        exact ⟨ret_bool HS.out.symm, (HB2.out.trans (HB.out.mono HB2.out.size)).trans (HB3.out.mono ((HB2.out.trans (HB.out.mono HB2.out.size)).size))⟩

end Go.Proofs.Ytadejcpifabpoaa
