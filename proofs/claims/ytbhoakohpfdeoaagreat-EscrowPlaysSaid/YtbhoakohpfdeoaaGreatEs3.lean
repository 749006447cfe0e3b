/- Package escrow: Open, Total. -/
import Derived.Test.YtbhoakohpfdeoaaGreatEs2
namespace Go.Proofs.YtbhoakohpfdeoaaGreat
open Go.RowKit
set_option linter.unusedVariables false
set_option linter.unusedSimpArgs false

/-- What holds of a book. -/
structure BInv (n m : Nat) (b : Nat → Nat → Int) (l : List XR) (T : Nat → Int) : Prop where
  good : Good n m b
  esc : ∀ x ∈ l, (0 ≤ x.f ∧ x.f < n) ∧ (0 ≤ x.t ∧ x.t < n) ∧ (0 ≤ x.a ∧ x.a < m) ∧ (0 ≤ x.n ∧ x.n ≤ MA)
  sum : ∀ j : Nat, j < m → tot b j n + lockedX l (j : Int) = T j
  max : ∀ j : Nat, j < m → T j ≤ MA
  few : l.length ≤ 100000
theorem openX_succ (l : List XR) (k : Nat) (h : k < l.length) : openX (l.take (k + 1)) = openX (l.take k) + (if l[k].s = 0 then 1 else 0) := by
  unfold openX
  rw [List.take_add_one, List.getElem?_eq_getElem h, List.filter_append, List.length_append]
  congr 1
  show (List.filter _ [l[k]]).length = _
  by_cases hs : l[k].s = 0
  · rw [if_pos hs]; simp [hs]
  · rw [if_neg hs]; simp [hs]
theorem openX_le (l : List XR) (k : Nat) : openX (l.take k) ≤ l.length := by
  unfold openX
  have h1 := List.length_filter_le (fun x : XR => x.s == 0) (l.take k)
  rw [List.length_take] at h1
  omega
theorem lockedX_succ (l : List XR) (k : Nat) (h : k < l.length) (j : Int) : lockedX (l.take (k + 1)) j = lockedX (l.take k) j + (if l[k].s = 0 ∧ l[k].a = j then l[k].n else 0) := by
  unfold lockedX
  rw [List.take_add_one, List.getElem?_eq_getElem h, List.filter_append, List.map_append, List.sum_append]
  congr 1
  show (List.map XR.n (List.filter _ [l[k]])).sum = _
  by_cases hs : l[k].s = 0 ∧ l[k].a = j
  · rw [if_pos hs]; simp [hs.1, hs.2]
  · rw [if_neg hs]
    have : (l[k].s == 0 && l[k].a == j) = false := by
      rw [Bool.eq_false_iff]
      intro h
      rw [Bool.and_eq_true, beq_iff_eq, beq_iff_eq] at h
      exact hs h
    simp [this]
theorem lockedX_nonneg (l : List XR) (h : ∀ x ∈ l, 0 ≤ x.n) (j : Int) : 0 ≤ lockedX l j := by
  unfold lockedX
  have : ∀ xs : List XR, (∀ x ∈ xs, 0 ≤ x.n) → 0 ≤ (xs.map XR.n).sum := fun xs => by
    induction xs with
    | nil => intro _; simp
    | cons x xs ih =>
      intro hx
      simp only [List.map_cons, List.sum_cons]
      have h1 := hx x (by simp)
      have h2 := ih (fun y hy => hx y (by simp [hy]))
      omega
  exact this _ (fun x hx => h x ((List.mem_filter.1 hx).1))
theorem lockedX_app (l l' : List XR) (j : Int) : lockedX (l ++ l') j = lockedX l j + lockedX l' j := by
  unfold lockedX
  rw [List.filter_append, List.map_append, List.sum_append]
theorem lockedX_take_le (l : List XR) (h : ∀ x ∈ l, 0 ≤ x.n) (k : Nat) (j : Int) : 0 ≤ lockedX (l.take k) j ∧ lockedX (l.take k) j ≤ lockedX l j := by
  have h1 := lockedX_nonneg (l.take k) (fun x hx => h x (List.mem_of_mem_take hx)) j
  have h2 := lockedX_nonneg (l.drop k) (fun x hx => h x (List.mem_of_mem_drop hx)) j
  have h3 := lockedX_app (l.take k) (l.drop k) j
  rw [List.take_append_drop] at h3
  omega
theorem lockedX_off (l : List XR) (j : Int) (h : ∀ x ∈ l, x.a ≠ j) : lockedX l j = 0 := by
  unfold lockedX
  have : l.filter (fun x => x.s == 0 && x.a == j) = [] := by
    rw [List.filter_eq_nil_iff]
    intro x hx
    have := h x hx
    simp [this]
  rw [this]; rfl
/-- All that there is of an asset. -/
def allX (n m : Nat) (b : Nat → Nat → Int) (l : List XR) (j : Int) : Int := totB n m b j + lockedX l j
theorem BInv.bound {n m : Nat} {b : Nat → Nat → Int} {l : List XR} {T : Nat → Int} (h : BInv n m b l T) (j : Int) : 0 ≤ totB n m b j ∧ allX n m b l j ≤ MA ∧ (∀ j' : Nat, j = (j' : Int) → j' < m → allX n m b l j = T j') := by
  unfold allX totB partB
  by_cases hj : 0 ≤ j ∧ j < m
  · rw [if_pos hj]
    obtain ⟨k, rfl⟩ : ∃ k : Nat, j = (k : Int) := ⟨j.toNat, by omega⟩
    have hk : k < m := by omega
    have h1 := h.sum k hk
    have h2 := h.max k hk
    have h3 := tot_nonneg (b := b) (j := k) (n := n) (fun i hi => h.good.pos i hi k hk)
    rw [Int.toNat_natCast]
    refine ⟨h3, by omega, fun j' e _ => ?_⟩
    have : k = j' := by omega
    rw [← this]; exact h1
  · rw [if_neg hj, lockedX_off l j (fun x hx => by have := (h.esc x hx).2.2.1; intro e; exact hj (by omega))]
    exact ⟨by omega, by unfold MA; omega, fun j' e hj' => absurd (by omega) hj⟩

section
variable {w : World} {Sp : Nat → Prop} {B tb q n m : Nat} {b : Nat → Nat → Int} {l : List XR} {v : Value}
set_option maxRecDepth 100000 in
set_option maxHeartbeats 2000000 in
theorem book_open (h : BK w Sp B tb q n m b l v) (hl : l.length ≤ 100000) :
    Calls Tryz.prog 20 #[.pointer (some ⟨B, 0, none⟩)] w fun e w' => e = .returned (.int .i64 (openX l : Int)) ∧ Below w.heap.size w w' := by
  obtain ⟨ao, c, rfl, _, _⟩ := h.shape
  obtain ⟨_, _, c2, _⟩ := h.cells
  have H := Lib.hid h
  obtain ⟨ln, hln⟩ : ∃ ln, ln = l.length := ⟨_, rfl⟩
  have HL : Hid (l.length = ln ∧ ln ≤ 100000) := Lib.hid ⟨hln.symm, by omega⟩
  rw [← hln] at c2
  clear h hl hln
  go_enter Tryz.func20, Tryz.ntmps20
  go_wp2_with fail
  clear c2
  go_loopw [3, 11] (fun s i wr => ∃ k : Nat, k ≤ ln ∧ i = .int .i64 (k : Int) ∧ s = .int .i64 (openX (l.take k) : Int) ∧ Below w.heap.size w wr) (fun _ i _ => ln - (intOf i).toNat)
  case atStart => exact ⟨0, by omega, rfl, rfl, Below.refl _ _⟩
  case round =>
    obtain ⟨k, hk, rfl, rfl, hb⟩ := hrel
    have HB := Lib.hid hb
    have HK := Lib.hid hk
    clear hb
    by_cases hlt : k < ln
    · have i1 : (k : Int) < (ln : Int) := by omega
      have hkl : k < l.length := by rw [HL.out.1]; exact hlt
      have HKL : Hid (k < ln) := Lib.hid hlt
      have HSU := Lib.hid (openX_succ l k hkl)
      have HOL := Lib.hid (openX_le l k)
      obtain ⟨g, rfl, hc, _⟩ := (H.out.below HB.out).esc k hkl
      generalize l[k] = x at *
      have e0 := hc 0 (by omega)
      have e1 := hc 1 (by omega)
      have e2 := hc 2 (by omega)
      have e3 := hc 3 (by omega)
      have e4 := hc 4 (by omega)
      have e5 := hc 5 (by omega)
      have e6 := hc 6 (by omega)
      have e7 := hc 7 (by omega)
      simp only [XR.cells, List.getElem?_toArray, List.getElem?_cons_zero, List.getElem?_cons_succ, Nat.add_zero] at e0 e1 e2 e3 e4 e5 e6 e7
      obtain ⟨w1, hw1⟩ : ∃ w1, w1 = wr.alloc (.cells x.cells 47) := ⟨_, rfl⟩
      have HB1 : Hid (Below w.heap.size w w1) := Lib.hid (by rw [hw1]; exact HB.out.alloc HB.out.size _)
      have HX1 : Hid (w1.heap[wr.heap.size]? = some (.cells x.cells 47 (0, 0))) := Lib.hid (by rw [hw1]; exact heap_alloc_new _ _)
      have HW1 := Lib.hid hw1
      unfold XR.cells at HW1
      obtain ⟨s, hs⟩ : ∃ s, s = openX (l.take k) := ⟨_, rfl⟩
      rw [← hs] at HSU HOL
      rw [← hs]
      clear hc hw1 hs hk hlt
      have HW2 : Hid (wrap64 ((k : Int) + 1) = ((k + 1 : Nat) : Int)) := Lib.hid (by have := HL.out; have := HKL.out; unfold wrap64; omega)
      have HML : Hid (ln - (intOf (.int .i64 ((k + 1 : Nat) : Int))).toNat < ln - (intOf (.int .i64 (k : Int))).toNat) := Lib.hid (by simp only [intOf]; have := HKL.out; omega)
      go_upto_region 5 with fail
      rw [← HW1.out]
      clear e0 e1 e2 e3 e4 e5 e6 e7
      obtain ⟨q0, q1, q2, q3, q4, q5, q6, q7⟩ := X_cells HX1.out
      by_cases hx : x.s = 0
      · have hb : (x.s == (0 : Int)) = true := by simp [hx]
        have HS2 : Hid (openX (l.take (k + 1)) = s + 1) := Lib.hid (by rw [HSU.out, if_pos hx])
        have HW3 : Hid (wrap64 ((s : Int) + 1) = ((s + 1 : Nat) : Int)) := Lib.hid (by have := HL.out; have := HOL.out; unfold wrap64; omega)
        clear hx
        go_wp2
        try rw [HW2.out]
        try rw [HW3.out]
        exact ⟨⟨k + 1, HKL.out, rfl, by rw [HS2.out], HB1.out⟩, HML.out⟩
      · have hb : (x.s == (0 : Int)) = false := by simp [hx]
        have HS2 : Hid (openX (l.take (k + 1)) = s) := Lib.hid (by rw [HSU.out, if_neg hx]; rfl)
        clear hx
        go_wp2
        try rw [HW2.out]
        exact ⟨⟨k + 1, HKL.out, rfl, by rw [HS2.out], HB1.out⟩, HML.out⟩
    · obtain rfl : k = ln := by omega
      have i1 : ¬ (k : Int) < (k : Int) := by omega
      have HT := Lib.hid (show l.take k = l from List.take_of_length_le (by rw [HL.out.1]; exact Nat.le_refl _))
      clear hlt hk
      go_wp2
      go_ret
      rw [HT.out]
      exact ⟨rfl, HB.out⟩

set_option maxRecDepth 100000 in
set_option maxHeartbeats 2000000 in
theorem book_total {T : Nat → Int} (h : BK w Sp B tb q n m b l v) (hI : BInv n m b l T) (j : Int) :
    Calls Tryz.prog 22 #[.pointer (some ⟨B, 0, none⟩), .int .i64 j] w fun e w' => e = .returned (.int .i64 (allX n m b l j)) ∧ Below w.heap.size w w' := by
  obtain ⟨ao, c, rfl, _, _⟩ := h.shape
  obtain ⟨_, c1, c2, _⟩ := h.cells
  have H := Lib.hid h
  have HPT := Lib.hid (pur_total q n m Sp b w h.pu hI.good j)
  have HBD := Lib.hid (hI.bound j)
  have HNN : Hid (∀ x ∈ l, 0 ≤ x.n) := Lib.hid (fun x hx => (hI.esc x hx).2.2.2.1)
  have HAL : Hid (allX n m b l j = totB n m b j + lockedX l j) := Lib.hid rfl
  obtain ⟨ln, hln⟩ : ∃ ln, ln = l.length := ⟨_, rfl⟩
  have HL : Hid (l.length = ln ∧ ln ≤ 100000) := Lib.hid ⟨hln.symm, by have := hI.few; omega⟩
  rw [← hln] at c2
  clear h hln hI
  generalize totB n m b j = tt at *
  generalize allX n m b l j = A at *
  go_enter Tryz.func22, Tryz.ntmps22
  go_wp2_with fail
  refine HPT.out.mono ?_
  rintro e w0 ⟨rfl, rfl⟩
  go_wp2_with fail
  clear c1 c2
  go_loopw [5, 19] (fun s i wr => ∃ k : Nat, k ≤ ln ∧ i = .int .i64 (k : Int) ∧ s = .int .i64 (tt + lockedX (l.take k) j) ∧ Below w.heap.size w wr) (fun _ i _ => ln - (intOf i).toNat)
  case atStart => exact ⟨0, by omega, rfl, by simp [lockedX], Below.refl _ _⟩
  case round =>
    obtain ⟨k, hk, rfl, rfl, hb⟩ := hrel
    have HB := Lib.hid hb
    have HK := Lib.hid hk
    clear hb
    by_cases hlt : k < ln
    · have i1 : (k : Int) < (ln : Int) := by omega
      have hkl : k < l.length := by rw [HL.out.1]; exact hlt
      have HKL : Hid (k < ln) := Lib.hid hlt
      have HSU := Lib.hid (lockedX_succ l k hkl j)
      have HOL := Lib.hid (lockedX_take_le l HNN.out k j)
      have HOL2 := Lib.hid (lockedX_take_le l HNN.out (k + 1) j)
      obtain ⟨g, rfl, hc, _⟩ := (H.out.below HB.out).esc k hkl
      generalize l[k] = x at *
      have e0 := hc 0 (by omega)
      have e1 := hc 1 (by omega)
      have e2 := hc 2 (by omega)
      have e3 := hc 3 (by omega)
      have e4 := hc 4 (by omega)
      have e5 := hc 5 (by omega)
      have e6 := hc 6 (by omega)
      have e7 := hc 7 (by omega)
      simp only [XR.cells, List.getElem?_toArray, List.getElem?_cons_zero, List.getElem?_cons_succ, Nat.add_zero] at e0 e1 e2 e3 e4 e5 e6 e7
      obtain ⟨w1, hw1⟩ : ∃ w1, w1 = wr.alloc (.cells x.cells 47) := ⟨_, rfl⟩
      have HB1 : Hid (Below w.heap.size w w1) := Lib.hid (by rw [hw1]; exact HB.out.alloc HB.out.size _)
      have HX1 : Hid (w1.heap[wr.heap.size]? = some (.cells x.cells 47 (0, 0))) := Lib.hid (by rw [hw1]; exact heap_alloc_new _ _)
      have HW1 := Lib.hid hw1
      unfold XR.cells at HW1
      obtain ⟨s, hs⟩ : ∃ s, s = tt + lockedX (l.take k) j := ⟨_, rfl⟩
      rw [← hs]
      have HSS : Hid (s = tt + lockedX (l.take k) j) := Lib.hid hs
      clear hc hw1 hs hk hlt
      have HW2 : Hid (wrap64 ((k : Int) + 1) = ((k + 1 : Nat) : Int)) := Lib.hid (by have := HL.out; have := HKL.out; unfold wrap64; omega)
      have HML : Hid (ln - (intOf (.int .i64 ((k + 1 : Nat) : Int))).toNat < ln - (intOf (.int .i64 (k : Int))).toNat) := Lib.hid (by simp only [intOf]; have := HKL.out; omega)
      go_upto_region 5 with fail
      rw [← HW1.out]
      clear e0 e1 e2 e3 e4 e5 e6 e7
      obtain ⟨q0, q1, q2, q3, q4, q5, q6, q7⟩ := X_cells HX1.out
      by_cases hx : x.s = 0
      · have hb : (x.s == (0 : Int)) = true := by simp [hx]
        by_cases hy : x.a = j
        · have hb2 : (x.a == j) = true := by simp [hy]
          have HS2 : Hid (tt + lockedX (l.take (k + 1)) j = s + x.n) := Lib.hid (by rw [HSU.out, if_pos ⟨hx, hy⟩, HSS.out]; omega)
          have HW3 : Hid (wrap64 (s + x.n) = s + x.n) := Lib.hid (by
            have h1 := HBD.out.1; have h2 := HBD.out.2.1; have h3 := HAL.out; have h4 := HOL2.out; have h5 := HS2.out
            unfold MA at h2
            unfold wrap64
            omega)
          clear hx hy
          go_wp2
          try rw [HW2.out]
          try rw [HW3.out]
          exact ⟨⟨k + 1, HKL.out, rfl, by rw [HS2.out], HB1.out⟩, HML.out⟩
        · have hb2 : (x.a == j) = false := by simp [hy]
          have HS2 : Hid (tt + lockedX (l.take (k + 1)) j = s) := Lib.hid (by rw [HSU.out, if_neg (fun h => hy h.2), HSS.out]; omega)
          clear hx hy
          go_wp2
          try rw [HW2.out]
          exact ⟨⟨k + 1, HKL.out, rfl, by rw [HS2.out], HB1.out⟩, HML.out⟩
      · have hb : (x.s == (0 : Int)) = false := by simp [hx]
        have HS2 : Hid (tt + lockedX (l.take (k + 1)) j = s) := Lib.hid (by rw [HSU.out, if_neg (fun h => hx h.1), HSS.out]; omega)
        clear hx
        go_wp2
        try rw [HW2.out]
        exact ⟨⟨k + 1, HKL.out, rfl, by rw [HS2.out], HB1.out⟩, HML.out⟩
    · obtain rfl : k = ln := by omega
      have i1 : ¬ (k : Int) < (k : Int) := by omega
      have HT := Lib.hid (show l.take k = l from List.take_of_length_le (by rw [HL.out.1]; exact Nat.le_refl _))
      clear hlt hk
      go_wp2
      go_ret
      rw [HT.out, ← HAL.out]
      exact ⟨rfl, HB.out⟩
end

end Go.Proofs.YtbhoakohpfdeoaaGreat
