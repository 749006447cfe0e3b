/- Package chain: Same; the reference's Same. -/
import Derived.Test.YtbhoakohpfdeoaaChC
namespace Go.Proofs.Ytbhoakohpfdeoaa
open Go.RowKit
set_option linter.unusedVariables false
set_option linter.unusedSimpArgs false

/-- Two entries alike. -/
def eqE (p : ER × ER) : Bool := (p.1.k == p.2.k) && eqB p.1.b p.2.b
theorem sameC_eq (l m : List ER) : sameC l m = (decide (l.length = m.length) && (l.zip m).all eqE) := rfl
theorem all_take_succ {α : Type} (f : α → Bool) (xs : List α) (k : Nat) (h : k < xs.length) : (xs.take (k + 1)).all f = ((xs.take k).all f && f xs[k]) := by
  rw [List.take_add_one, List.getElem?_eq_getElem h, List.all_append]
  simp
theorem all_at {α : Type} (f : α → Bool) (xs : List α) (k : Nat) (h : k < xs.length) (hf : f xs[k] = false) : xs.all f = false := by
  rw [List.all_eq_false]
  exact ⟨xs[k], List.getElem_mem h, by rw [hf]; decide⟩

set_option maxHeartbeats 1000000 in
theorem same1_any (x y : ER) (xo yo : Option Addr) (xc yc m n : Nat) (w : World) (hm : x.b.length = m) (hn : y.b.length = n) (hx : IntsAt .u8 w xo x.b) (hy : IntsAt .u8 w yo y.b) (rx : InB x.b) (ry : InB y.b) :
    Calls Try.prog 56 #[.agg #[.int .i64 x.k, .slice xo m xc], .agg #[.int .i64 y.k, .slice yo n yc]] w fun e w' => e = .returned (.bool (eqE (x, y))) ∧ Below w.heap.size w w' := by
  obtain ⟨w1, hw1⟩ : ∃ w1, w1 = (w.alloc (.cells #[.int .i64 x.k, .slice xo m xc] 34)).alloc (.cells #[.int .i64 y.k, .slice yo n yc] 34) := ⟨_, rfl⟩
  have HB1 : Hid (Below w.heap.size w w1) := Lib.hid (by rw [hw1]; exact ((Below.refl _ _).alloc (Nat.le_refl _) _).alloc (by simp) _)
  have HX1 : Hid (EBox w1 w.heap.size x.k (.slice xo m xc)) := Lib.hid (by
    rw [hw1]
    exact (EBox.new w _ _).below ((Below.refl _ _).alloc (Nat.le_refl _) _))
  have HY1 : Hid (EBox w1 (w.heap.size + 1) y.k (.slice yo n yc)) := Lib.hid (by
    have h := EBox.new (w.alloc (.cells #[.int .i64 x.k, .slice xo m xc] 34)) y.k (.slice yo n yc)
    rw [hw1]
    simpa using h)
  have HC := Lib.hid (bytes_equal xo yo x.b y.b m n xc yc w1 hm hn (ints_below hx HB1.out) (ints_below hy HB1.out) rx ry)
  have HW1 := Lib.hid hw1
  have HE : Hid (eqE (x, y) = ((x.k == y.k) && eqB x.b y.b)) := Lib.hid rfl
  clear hm hn hx hy rx ry hw1
  obtain ⟨x0, x1⟩ := HX1.out.cells
  obtain ⟨y0, y1⟩ := HY1.out.cells
  generalize eqB x.b y.b = B at *
  generalize x.k = kx at *
  generalize y.k = ky at *
  go_enter Try.func56, Try.ntmps56
  go_upto_region 1 with fail
  rw [← HW1.out]
  by_cases hk : kx = ky
  · have hb : (kx == ky) = true := by simp [hk]
    have HV : Hid (eqE (x, y) = B) := Lib.hid (by rw [HE.out, hb, Bool.true_and])
    clear hk
    go_wp2_with fail
    refine HC.out.mono ?_
    rintro e w2 ⟨rfl, rfl⟩
    go_wp2
    go_ret
    exact ⟨ret_bool HV.out.symm, HB1.out⟩
  · have hb : (kx == ky) = false := by simp [hk]
    have HV : Hid (eqE (x, y) = false) := Lib.hid (by rw [HE.out, hb, Bool.false_and])
    clear hk
    go_wp2
    go_ret
    exact ⟨ret_bool HV.out.symm, HB1.out⟩

/-- Two rows of entries, one by one. -/
def zipE (es fs : List EV) : List (ER × ER) := (ersL es).zip (ersL fs)
theorem zipE_len (es fs : List EV) (h : es.length = fs.length) : (zipE es fs).length = es.length := by simp [zipE, ersL, h]
theorem zipE_at (es fs : List EV) (k : Nat) (h1 : k < es.length) (h2 : k < fs.length) (h : k < (zipE es fs).length) : (zipE es fs)[k] = (es[k].er, fs[k].er) := by
  simp [zipE, ersL]
theorem same_len (es fs : List EV) (h : es.length ≠ fs.length) : sameC (ersL es) (ersL fs) = false := by
  rw [sameC_eq, ersL_len, ersL_len, decide_eq_false h, Bool.false_and]
theorem same_zip (es fs : List EV) (h : es.length = fs.length) : sameC (ersL es) (ersL fs) = (zipE es fs).all eqE := by
  rw [sameC_eq, ersL_len, ersL_len, decide_eq_true h, Bool.true_and]; rfl

set_option maxHeartbeats 2000000 in
theorem equalFunc_any (ao bo : Option Addr) (es fs : List EV) (n m c d : Nat) (w : World) (hn : es.length = n) (hm : fs.length = m) (he : EntAt w ao es) (hf : EntAt w bo fs) (hc : n ≤ c) (hcm : c ≤ maxLen) (hd : m ≤ d) (hdm : d ≤ maxLen) (hs : n ≤ 1000000) :
    Calls Try.prog 55 #[.slice ao n c, .slice bo m d, .func (Fn.func 56) #[] #[]] w fun e w' => e = .returned (.bool (sameC (ersL es) (ersL fs))) ∧ Below w.heap.size w w' := by
  have HN := Lib.hid hn
  have HM := Lib.hid hm
  have HE := Lib.hid he
  have HF := Lib.hid hf
  have HS := Lib.hid hs
  clear hn hm he hf hc hcm hd hdm hs
  by_cases hnm : n = m
  case neg =>
    have HV := Lib.hid (same_len es fs (by rw [HN.out, HM.out]; exact hnm))
    have hb : ((n : Int) != (m : Int)) = true := by simp; omega
    clear hnm
    go_enter Try.func55, Try.ntmps55
    go_wp2
    go_ret
    exact ⟨ret_bool HV.out.symm, Below.refl _ _⟩
  subst hnm
  have HV := Lib.hid (same_zip es fs (by rw [HN.out, HM.out]))
  have HZ := Lib.hid (zipE_len es fs (by rw [HN.out, HM.out]))
  have hb : ((n : Int) != (n : Int)) = false := by simp
  go_enter Try.func55, Try.ntmps55
  go_wp2_with fail
  clear hb
  go_loopw [17] (fun i wr => ∃ k : Nat, k ≤ n ∧ i = .int .i64 (k : Int) ∧ ((zipE es fs).take k).all eqE = true ∧ Below w.heap.size w wr) (fun i _ => n - (intOf i).toNat)
  case atStart => exact ⟨0, by omega, rfl, rfl, Below.refl _ _⟩
  case round =>
    obtain ⟨k, hk, rfl, hall, hbl⟩ := hrel
    have HA := Lib.hid hall
    have HB := Lib.hid hbl
    clear hall hbl
    by_cases hlt : k < n
    · have i1 : (k : Int) < (n : Int) := by omega
      have hk1 : k < es.length := by rw [HN.out]; exact hlt
      have hk2 : k < fs.length := by rw [HM.out]; exact hlt
      have hk3 : k < (zipE es fs).length := by rw [HZ.out, HN.out]; exact hlt
      obtain ⟨b, off, rfl, x0, x1⟩ := (HE.out.below HB.out).at k hk1
      obtain ⟨b2, off2, rfl, y0, y1⟩ := (HF.out.below HB.out).at k hk2
      have HX := Lib.hid ((HE.out.below HB.out).2 es[k] (List.getElem_mem hk1))
      have HY := Lib.hid ((HF.out.below HB.out).2 fs[k] (List.getElem_mem hk2))
      have HSU := Lib.hid (all_take_succ eqE (zipE es fs) k hk3)
      have HAT := Lib.hid (all_at eqE (zipE es fs) k hk3)
      rw [zipE_at es fs k hk1 hk2 hk3] at HSU HAT
      obtain ⟨p, hp⟩ : ∃ p, p = es[k].b.length := ⟨_, rfl⟩
      obtain ⟨q, hq⟩ : ∃ q, q = fs[k].b.length := ⟨_, rfl⟩
      rw [← hp] at x1
      rw [← hq] at y1
      have HP : Hid (es[k].b.length = p ∧ fs[k].b.length = q) := Lib.hid ⟨hp.symm, hq.symm⟩
      clear hp hq
      generalize es[k] = ek at *
      generalize fs[k] = fk at *
      have w2 : wrap64 ((k : Int) + 1) = ((k + 1 : Nat) : Int) := by have := HS.out; unfold wrap64; omega
      have HWN := Lib.hid w2
      clear w2
      obtain ⟨w1, hw1⟩ : ∃ w1, w1 = wr.alloc (.cells #[.int .i64 ek.k, .slice ek.ao p ek.c] 34) := ⟨_, rfl⟩
      have HB1 : Hid (Below wr.heap.size wr w1) := Lib.hid (by rw [hw1]; exact (Below.refl _ _).alloc (Nat.le_refl _) _)
      have HX1 : Hid (EBox w1 wr.heap.size ek.k (.slice ek.ao p ek.c)) := Lib.hid (by rw [hw1]; exact EBox.new _ _ _)
      have z0 := (HB1.out.cell (World.block_lt_of_cell? wr _ y0)).trans y0
      have z1 := (HB1.out.cell (World.block_lt_of_cell? wr _ y1)).trans y1
      have HW1 := Lib.hid hw1
      go_upto_region 6 with fail
      rw [← HW1.out]
      clear x0 x1 y0 y1 hw1
      obtain ⟨w2, hw2⟩ : ∃ w2, w2 = w1.alloc (.cells #[.int .i64 fk.k, .slice fk.ao q fk.c] 34) := ⟨_, rfl⟩
      have HB2 : Hid (Below w1.heap.size w1 w2) := Lib.hid (by rw [hw2]; exact (Below.refl _ _).alloc (Nat.le_refl _) _)
      have HX2 := Lib.hid (HX1.out.below HB2.out)
      have HY2 : Hid (EBox w2 w1.heap.size fk.k (.slice fk.ao q fk.c)) := Lib.hid (by rw [hw2]; exact EBox.new _ _ _)
      have HW2 := Lib.hid hw2
      go_upto_region 7 with fail
      rw [← HW2.out]
      clear z0 z1 hw2
      obtain ⟨x0, x1⟩ := HX2.out.cells
      obtain ⟨y0, y1⟩ := HY2.out.cells
      have HB3 : Hid (Below wr.heap.size wr w2) := Lib.hid (below_step HB1.out HB2.out)
      have HCA := Lib.hid (same1_any ek.er fk.er ek.ao fk.ao ek.c fk.c p q w2 HP.out.1 HP.out.2 (ints_below HX.out.1 HB3.out) (ints_below HY.out.1 HB3.out) HX.out.2.1 HY.out.2.1)
      unfold EV.er at HCA
      dsimp only at HCA
      generalize hv : eqE (ek.er, fk.er) = v at *
      have HVV := Lib.hid hv
      unfold EV.er at hv
      rw [hv] at HCA
      clear hv
      go_wp2_with fail
      with_reducible refine HCA.out.mono ?_
      rintro e w3 ⟨rfl, hb3⟩
      have HB4 : Hid (Below w.heap.size w w3) := Lib.hid (below_step (below_step HB.out HB3.out) hb3)
      clear hb3 HCA
      cases v with
      | false =>
        have HR : Hid (sameC (ersL es) (ersL fs) = false) := Lib.hid (by rw [HV.out]; exact HAT.out rfl)
        go_wp2
        go_ret
        exact ⟨ret_bool HR.out.symm, HB4.out⟩
      | true =>
        go_wp2
        rw [HWN.out]
        refine ⟨⟨k + 1, by omega, rfl, by rw [HSU.out, HA.out]; rfl, HB4.out⟩, ?_⟩
        simp only [intOf]; omega
    · obtain rfl : k = n := by omega
      have c1 : ¬ (k : Int) < (k : Int) := by omega
      have HR : Hid (sameC (ersL es) (ersL fs) = true) := Lib.hid (by
        rw [HV.out, ← HA.out, List.take_of_length_le (by rw [HZ.out, HN.out]; exact Nat.le_refl _)])
      clear hlt
      go_wp2
      go_ret
      exact ⟨ret_bool HR.out.symm, HB.out⟩

set_option maxHeartbeats 1000000 in
theorem chain_same (ao bo : Option Addr) (es fs : List EV) (n m c d : Nat) (w : World) (hn : es.length = n) (hm : fs.length = m) (he : EntAt w ao es) (hf : EntAt w bo fs) (hc : n ≤ c) (hcm : c ≤ maxLen) (hd : m ≤ d) (hdm : d ≤ maxLen) (hs : n ≤ 1000000) :
    Calls Try.prog 22 #[.slice ao n c, .slice bo m d] w fun e w' => e = .returned (.bool (sameC (ersL es) (ersL fs))) ∧ Below w.heap.size w w' := by
  have HC := Lib.hid (equalFunc_any ao bo es fs n m c d w hn hm he hf hc hcm hd hdm hs)
  clear hn hm he hf hc hcm hd hdm hs
  go_enter Try.func22, Try.ntmps22
  go_wp2_with fail
  with_reducible refine HC.out.mono ?_
  rintro e w3 ⟨rfl, hb3⟩
  have HB := Lib.hid hb3
  clear hb3
  go_wp2
  go_ret
  exact ⟨rfl, HB.out⟩

set_option maxRecDepth 100000 in
set_option maxHeartbeats 2000000 in
theorem rsameC_any (ao bo : Option Addr) (es fs : List EV) (n m c d : Nat) (w : World) (hn : es.length = n) (hm : fs.length = m) (he : EntAt w ao es) (hf : EntAt w bo fs) (hs : n ≤ 1000000) :
    Calls Try.prog 43 #[.slice ao n c, .slice bo m d] w fun e w' => e = .returned (.bool (sameC (ersL es) (ersL fs))) ∧ Below w.heap.size w w' := by
  have HN := Lib.hid hn
  have HM := Lib.hid hm
  have HE := Lib.hid he
  have HF := Lib.hid hf
  have HS := Lib.hid hs
  clear hn hm he hf hs
  by_cases hnm : n = m
  case neg =>
    have HV := Lib.hid (same_len es fs (by rw [HN.out, HM.out]; exact hnm))
    have hb : ((n : Int) != (m : Int)) = true := by simp; omega
    clear hnm
    go_enter Try.func43, Try.ntmps43
    go_wp2
    go_ret
    exact ⟨ret_bool HV.out.symm, Below.refl _ _⟩
  subst hnm
  have HV := Lib.hid (same_zip es fs (by rw [HN.out, HM.out]))
  have HZ := Lib.hid (zipE_len es fs (by rw [HN.out, HM.out]))
  have hb : ((n : Int) != (n : Int)) = false := by simp
  go_enter Try.func43, Try.ntmps43
  go_wp2_with fail
  clear hb
  go_loopw [5] (fun i wr => ∃ k : Nat, k ≤ n ∧ i = .int .i64 (k : Int) ∧ ((zipE es fs).take k).all eqE = true ∧ Below w.heap.size w wr) (fun i _ => n - (intOf i).toNat)
  case atStart => exact ⟨0, by omega, rfl, rfl, Below.refl _ _⟩
  case round =>
    obtain ⟨k, hk, rfl, hall, hbl⟩ := hrel
    have HA := Lib.hid hall
    have HB := Lib.hid hbl
    clear hall hbl
    by_cases hlt : k < n
    · have i1 : (k : Int) < (n : Int) := by omega
      have hk1 : k < es.length := by rw [HN.out]; exact hlt
      have hk2 : k < fs.length := by rw [HM.out]; exact hlt
      have hk3 : k < (zipE es fs).length := by rw [HZ.out, HN.out]; exact hlt
      obtain ⟨b, off, rfl, x0, x1⟩ := (HE.out.below HB.out).at k hk1
      obtain ⟨b2, off2, rfl, y0, y1⟩ := (HF.out.below HB.out).at k hk2
      have HX := Lib.hid ((HE.out.below HB.out).2 es[k] (List.getElem_mem hk1))
      have HY := Lib.hid ((HF.out.below HB.out).2 fs[k] (List.getElem_mem hk2))
      have HSU := Lib.hid (all_take_succ eqE (zipE es fs) k hk3)
      have HAT := Lib.hid (all_at eqE (zipE es fs) k hk3)
      rw [zipE_at es fs k hk1 hk2 hk3] at HSU HAT
      have HVQ : Hid (eqE (es[k].er, fs[k].er) = ((es[k].k == fs[k].k) && eqB es[k].b fs[k].b)) := Lib.hid rfl
      obtain ⟨p, hp⟩ : ∃ p, p = es[k].b.length := ⟨_, rfl⟩
      obtain ⟨q, hq⟩ : ∃ q, q = fs[k].b.length := ⟨_, rfl⟩
      rw [← hp] at x1
      rw [← hq] at y1
      have HP : Hid (es[k].b.length = p ∧ fs[k].b.length = q) := Lib.hid ⟨hp.symm, hq.symm⟩
      clear hp hq
      generalize es[k] = ek at *
      generalize fs[k] = fk at *
      have w2 : wrap64 ((k : Int) + 1) = ((k + 1 : Nat) : Int) := by have := HS.out; unfold wrap64; omega
      have HWN := Lib.hid w2
      clear w2
      have HBE := Lib.hid (bytes_eq ek.ao fk.ao ek.b fk.b p q ek.c fk.c wr.drew HP.out.1 HP.out.2 HX.out.1 HY.out.1 HX.out.2.1 HY.out.2.1)
      generalize eqB ek.b fk.b = B at *
      go_upto_region 6 with fail
      by_cases hkk : ek.k = fk.k
      · have hb2 : (ek.k != fk.k) = false := by simp [hkk]
        have hb3 : (ek.k == fk.k) = true := by simp [hkk]
        rw [hb3, Bool.true_and] at HVQ
        clear hkk hb3
        refine wp_region_held_drew (S := fun w' => w'.cell? ⟨b, off + k * 2, none⟩ = some (.int .i64 ek.k) ∧ w'.cell? ⟨b, off + k * 2 + 1, none⟩ = some (.slice ek.ao p ek.c) ∧ w'.cell? ⟨b2, off2 + k * 2, none⟩ = some (.int .i64 fk.k) ∧ w'.cell? ⟨b2, off2 + k * 2 + 1, none⟩ = some (.slice fk.ao q fk.c)) (by kernel_rfl) ?_ (fun hHeld => ?_)
        · exact ⟨x0, x1, y0, y1⟩
        refine take_at (i := 0) (d := 17) (v := ?_) rfl rfl (by kernel_rfl) (by kernel_rfl) (by kernel_rfl) (fun _ _ _ h => h) (Or.inl ⟨by rfl, by intro w' hSw; (try dsimp only at hSw); go_simp; try with_reducible rfl⟩) (by assumption) ?_
        simp only [List.setIfInBounds_toArray, List.set_cons_zero, List.set_cons_succ]
        refine take_at (i := 1) (d := 18) (v := ?_) rfl rfl (by kernel_rfl) (by kernel_rfl) (by kernel_rfl) (fun _ _ _ h => h) (Or.inl ⟨by rfl, by intro w' hSw; (try dsimp only at hSw); go_simp; try with_reducible rfl⟩) (by assumption) ?_
        simp only [List.setIfInBounds_toArray, List.set_cons_zero, List.set_cons_succ]
        refine take_at (i := 2) (d := 19) (v := ?_) rfl rfl (by kernel_rfl) (by kernel_rfl) (by kernel_rfl) (fun _ _ _ h => h) (Or.inl ⟨by rfl, by intro w' hSw; (try dsimp only at hSw); go_simp; try with_reducible rfl⟩) (by assumption) ?_
        simp only [List.setIfInBounds_toArray, List.set_cons_zero, List.set_cons_succ]
        refine take_at (i := 3) (d := 20) (v := ?_) rfl rfl (by kernel_rfl) (by kernel_rfl) (by kernel_rfl) (fun _ _ _ h => h) (Or.inl ⟨by rfl, by intro w' hSw; (try dsimp only at hSw); go_simp; try with_reducible rfl⟩) (by assumption) ?_
        simp only [List.setIfInBounds_toArray, List.set_cons_zero, List.set_cons_succ]
        refine take_at (i := 4) (d := 21) (v := ?_) rfl rfl (by kernel_rfl) (by kernel_rfl) (by kernel_rfl) (fun _ _ _ h => h) (Or.inl ⟨by rfl, by intro w' hSw; (try dsimp only at hSw); go_simp; try with_reducible rfl⟩) (by assumption) ?_
        simp only [List.setIfInBounds_toArray, List.set_cons_zero, List.set_cons_succ]
        refine take_at (i := 5) (d := 22) (v := ?_) rfl rfl (by kernel_rfl) (by kernel_rfl) (by kernel_rfl) (fun _ _ _ h => h) (Or.inl ⟨by rfl, by intro w' hSw; (try dsimp only at hSw); go_simp; try with_reducible rfl⟩) (by assumption) ?_
        simp only [List.setIfInBounds_toArray, List.set_cons_zero, List.set_cons_succ]
        refine take_at (i := 6) (d := 23) (v := ?_) rfl rfl (by kernel_rfl) (by kernel_rfl) (by kernel_rfl) (fun _ _ _ h => h) (Or.inl ⟨by rfl, by intro w' hSw; (try dsimp only at hSw); go_simp; try with_reducible rfl⟩) (by assumption) ?_
        simp only [List.setIfInBounds_toArray, List.set_cons_zero, List.set_cons_succ]
        refine take_at (i := 7) (d := 24) (v := ?_) rfl rfl (by kernel_rfl) (by kernel_rfl) (by kernel_rfl) (fun _ _ _ h => h) (Or.inl ⟨by rfl, by intro w' hSw; (try dsimp only at hSw); go_simp; try with_reducible rfl⟩) (by assumption) ?_
        simp only [List.setIfInBounds_toArray, List.set_cons_zero, List.set_cons_succ]
        refine take_at (i := 8) (d := 25) (v := ?_) rfl rfl (by kernel_rfl) (by kernel_rfl) (by kernel_rfl) (fun _ _ _ h => h) (Or.inl ⟨by rfl, by intro w' hSw; (try dsimp only at hSw); go_simp; try with_reducible rfl⟩) (by assumption) ?_
        simp only [List.setIfInBounds_toArray, List.set_cons_zero, List.set_cons_succ]
        refine take_at (i := 9) (d := 26) (v := ?_) rfl rfl (by kernel_rfl) (by kernel_rfl) (by kernel_rfl) (fun _ _ _ h => h) (Or.inl ⟨by rfl, by intro w' hSw; (try dsimp only at hSw); go_simp; try with_reducible rfl⟩) (by assumption) ?_
        simp only [List.setIfInBounds_toArray, List.set_cons_zero, List.set_cons_succ]
        refine take_at (i := 10) (d := 27) (v := ?_) rfl rfl (by kernel_rfl) (by kernel_rfl) (by kernel_rfl) (fun _ _ _ h => h) (Or.inl ⟨by rfl, by intro w' hSw; (try dsimp only at hSw); go_simp; try with_reducible rfl⟩) (by assumption) ?_
        simp only [List.setIfInBounds_toArray, List.set_cons_zero, List.set_cons_succ]
        refine take_at (i := 11) (d := 28) (v := ?_) rfl rfl (by kernel_rfl) (by kernel_rfl) (by kernel_rfl) (fun _ _ _ h => h) (Or.inl ⟨by rfl, by intro w' hSw; (try dsimp only at hSw); go_simp; try with_reducible rfl⟩) (by assumption) ?_
        simp only [List.setIfInBounds_toArray, List.set_cons_zero, List.set_cons_succ]
        refine take_at (i := 12) (d := 29) (v := ?_) rfl rfl (by kernel_rfl) (by kernel_rfl) (by kernel_rfl) (fun _ _ _ h => h) (Or.inl ⟨by rfl, by intro w' hSw; (try dsimp only at hSw); go_simp; try with_reducible rfl⟩) (by assumption) ?_
        simp only [List.setIfInBounds_toArray, List.set_cons_zero, List.set_cons_succ]
        refine take_at (i := 13) (d := 30) (v := ?_) rfl rfl (by kernel_rfl) (by kernel_rfl) (by kernel_rfl) (fun _ _ _ h => h) (Or.inl ⟨by rfl, by intro w' hSw; (try dsimp only at hSw); go_simp; try with_reducible rfl⟩) (by assumption) ?_
        simp only [List.setIfInBounds_toArray, List.set_cons_zero, List.set_cons_succ]
        refine take_at (i := 14) (d := 31) (v := ?_) rfl rfl (by kernel_rfl) (by kernel_rfl) (by kernel_rfl) (fun _ _ _ h => h) (Or.inl ⟨by rfl, by intro w' hSw; (try dsimp only at hSw); go_simp; try with_reducible rfl⟩) (by assumption) ?_
        simp only [List.setIfInBounds_toArray, List.set_cons_zero, List.set_cons_succ]
        refine take_at (i := 15) (d := 32) (v := ?_) rfl rfl (by kernel_rfl) (by kernel_rfl) (by kernel_rfl) (fun _ _ _ h => h) (Or.inl ⟨by rfl, by intro w' hSw; (try dsimp only at hSw); go_simp; try with_reducible rfl⟩) (by assumption) ?_
        simp only [List.setIfInBounds_toArray, List.set_cons_zero, List.set_cons_succ]
        refine take_at (i := 16) (d := 33) (v := ?_) rfl rfl (by kernel_rfl) (by kernel_rfl) (by kernel_rfl) (fun _ _ _ h => h) (Or.inl ⟨by rfl, by intro w' hSw; (try dsimp only at hSw); go_simp; try with_reducible rfl⟩) (by assumption) ?_
        simp only [List.setIfInBounds_toArray, List.set_cons_zero, List.set_cons_succ]
        refine take_at (i := 17) (d := 34) (v := ?_) rfl rfl (by kernel_rfl) (by kernel_rfl) (by kernel_rfl) (fun _ _ _ h => h) (Or.inl ⟨by rfl, by intro w' hSw; (try dsimp only at hSw); go_simp; try with_reducible rfl⟩) (by assumption) ?_
        simp only [List.setIfInBounds_toArray, List.set_cons_zero, List.set_cons_succ]
        refine take_at (i := 18) (d := 35) (v := ?_) rfl rfl (by kernel_rfl) (by kernel_rfl) (by kernel_rfl) (fun _ _ _ h => h) (Or.inl ⟨by rfl, by intro w' hSw; (try dsimp only at hSw); go_simp; try with_reducible rfl⟩) (by assumption) ?_
        simp only [List.setIfInBounds_toArray, List.set_cons_zero, List.set_cons_succ]
        refine take_at (i := 19) (d := 36) (v := ?_) rfl rfl (by kernel_rfl) (by kernel_rfl) (by kernel_rfl) (fun _ _ _ h => h) (Or.inl ⟨by rfl, by intro w' hSw; (try dsimp only at hSw); go_simp; try with_reducible rfl⟩) (by assumption) ?_
        simp only [List.setIfInBounds_toArray, List.set_cons_zero, List.set_cons_succ]
        refine take_at (i := 20) (d := 37) (v := ?_) rfl rfl (by kernel_rfl) (by kernel_rfl) (by kernel_rfl) (fun _ _ _ h => h) (Or.inl ⟨by rfl, by intro w' hSw; (try dsimp only at hSw); go_simp; try with_reducible rfl⟩) (by assumption) ?_
        simp only [List.setIfInBounds_toArray, List.set_cons_zero, List.set_cons_succ]
        refine take_at (i := 21) (d := 38) (v := ?_) rfl rfl (by kernel_rfl) (by kernel_rfl) (by kernel_rfl) (fun _ _ _ h => h) (Or.inl ⟨by rfl, by intro w' hSw; (try dsimp only at hSw); go_simp; try with_reducible rfl⟩) (by assumption) ?_
        simp only [List.setIfInBounds_toArray, List.set_cons_zero, List.set_cons_succ]
        refine wpAnyH_ready (rs := [22]) (by kernel_rfl) (by simp) ?_
        refine AllReadyH.cons rfl (fun K hK => ?_) AllReadyH.nil
        go_simp
        refine HBE.out.mono ?_
        rintro e w9 ⟨rfl, rfl⟩
        dsimp only
        go_wp2_with fail
        refine hK.out _ _ ?_ (fun hHeld => ?_)
        · exact ⟨x0, x1, y0, y1⟩
        clear hK K
        try simp only [Act.put, List.getElem_toArray, List.getElem_cons_succ, List.getElem_cons_zero]
        try simp only [List.setIfInBounds_toArray, List.set_cons_zero, List.set_cons_succ]
        refine take_at (i := 23) (d := 40) (v := ?_) rfl rfl (by kernel_rfl) (by kernel_rfl) (by kernel_rfl) (fun _ _ _ h => h) (Or.inl ⟨by rfl, by intro w' hSw; (try dsimp only at hSw); go_simp; try with_reducible rfl⟩) (by assumption) ?_
        simp only [List.setIfInBounds_toArray, List.set_cons_zero, List.set_cons_succ]
        refine take_at (i := 24) (d := 41) (v := ?_) rfl rfl (by kernel_rfl) (by kernel_rfl) (by kernel_rfl) (fun _ _ _ h => h) (Or.inl ⟨by rfl, by intro w' hSw; (try dsimp only at hSw); go_simp; try with_reducible rfl⟩) (by assumption) ?_
        simp only [List.setIfInBounds_toArray, List.set_cons_zero, List.set_cons_succ]
        refine wpAnyH_done (by kernel_rfl) ?_ _
        cases B with
        | false =>
          have HR : Hid (sameC (ersL es) (ersL fs) = false) := Lib.hid (by rw [HV.out]; exact HAT.out HVQ.out)
          go_wp2
          go_ret
          exact ⟨ret_bool HR.out.symm, HB.out.drew⟩
        | true =>
          go_wp2
          rw [HWN.out]
          refine ⟨⟨k + 1, by omega, rfl, by rw [HSU.out, HA.out, HVQ.out]; rfl, HB.out.drew⟩, ?_⟩
          simp only [intOf]; omega
      · have hb2 : (ek.k != fk.k) = true := by simp [hkk]
        have hb3 : (ek.k == fk.k) = false := by simp [hkk]
        rw [hb3, Bool.false_and] at HVQ
        clear hkk hb3
        have HR : Hid (sameC (ersL es) (ersL fs) = false) := Lib.hid (by rw [HV.out]; exact HAT.out HVQ.out)
        refine wp_region_held_drew (S := fun w' => w'.cell? ⟨b, off + k * 2, none⟩ = some (.int .i64 ek.k) ∧ w'.cell? ⟨b2, off2 + k * 2, none⟩ = some (.int .i64 fk.k)) (by kernel_rfl) ?_ (fun hHeld => ?_)
        · exact ⟨x0, y0⟩
        refine take_at (i := 0) (d := 17) (v := ?_) rfl rfl (by kernel_rfl) (by kernel_rfl) (by kernel_rfl) (fun _ _ _ h => h) (Or.inl ⟨by rfl, by intro w' hSw; (try dsimp only at hSw); go_simp; try with_reducible rfl⟩) (by assumption) ?_
        simp only [List.setIfInBounds_toArray, List.set_cons_zero, List.set_cons_succ]
        refine take_at (i := 1) (d := 18) (v := ?_) rfl rfl (by kernel_rfl) (by kernel_rfl) (by kernel_rfl) (fun _ _ _ h => h) (Or.inl ⟨by rfl, by intro w' hSw; (try dsimp only at hSw); go_simp; try with_reducible rfl⟩) (by assumption) ?_
        simp only [List.setIfInBounds_toArray, List.set_cons_zero, List.set_cons_succ]
        refine take_at (i := 2) (d := 19) (v := ?_) rfl rfl (by kernel_rfl) (by kernel_rfl) (by kernel_rfl) (fun _ _ _ h => h) (Or.inl ⟨by rfl, by intro w' hSw; (try dsimp only at hSw); go_simp; try with_reducible rfl⟩) (by assumption) ?_
        simp only [List.setIfInBounds_toArray, List.set_cons_zero, List.set_cons_succ]
        refine take_at (i := 3) (d := 20) (v := ?_) rfl rfl (by kernel_rfl) (by kernel_rfl) (by kernel_rfl) (fun _ _ _ h => h) (Or.inl ⟨by rfl, by intro w' hSw; (try dsimp only at hSw); go_simp; try with_reducible rfl⟩) (by assumption) ?_
        simp only [List.setIfInBounds_toArray, List.set_cons_zero, List.set_cons_succ]
        refine take_at (i := 4) (d := 21) (v := ?_) rfl rfl (by kernel_rfl) (by kernel_rfl) (by kernel_rfl) (fun _ _ _ h => h) (Or.inl ⟨by rfl, by intro w' hSw; (try dsimp only at hSw); go_simp; try with_reducible rfl⟩) (by assumption) ?_
        simp only [List.setIfInBounds_toArray, List.set_cons_zero, List.set_cons_succ]
        refine take_at (i := 5) (d := 22) (v := ?_) rfl rfl (by kernel_rfl) (by kernel_rfl) (by kernel_rfl) (fun _ _ _ h => h) (Or.inl ⟨by rfl, by intro w' hSw; (try dsimp only at hSw); go_simp; try with_reducible rfl⟩) (by assumption) ?_
        simp only [List.setIfInBounds_toArray, List.set_cons_zero, List.set_cons_succ]
        refine take_at (i := 6) (d := 23) (v := ?_) rfl rfl (by kernel_rfl) (by kernel_rfl) (by kernel_rfl) (fun _ _ _ h => h) (Or.inl ⟨by rfl, by intro w' hSw; (try dsimp only at hSw); go_simp; try with_reducible rfl⟩) (by assumption) ?_
        simp only [List.setIfInBounds_toArray, List.set_cons_zero, List.set_cons_succ]
        refine take_at (i := 7) (d := 24) (v := ?_) rfl rfl (by kernel_rfl) (by kernel_rfl) (by kernel_rfl) (fun _ _ _ h => h) (Or.inl ⟨by rfl, by intro w' hSw; (try dsimp only at hSw); go_simp; try with_reducible rfl⟩) (by assumption) ?_
        simp only [List.setIfInBounds_toArray, List.set_cons_zero, List.set_cons_succ]
        refine take_at (i := 8) (d := 25) (v := ?_) rfl rfl (by kernel_rfl) (by kernel_rfl) (by kernel_rfl) (fun _ _ _ h => h) (Or.inl ⟨by rfl, by intro w' hSw; (try dsimp only at hSw); go_simp; try with_reducible rfl⟩) (by assumption) ?_
        simp only [List.setIfInBounds_toArray, List.set_cons_zero, List.set_cons_succ]
        refine take_at (i := 9) (d := 26) (v := ?_) rfl rfl (by kernel_rfl) (by kernel_rfl) (by kernel_rfl) (fun _ _ _ h => h) (Or.inl ⟨by rfl, by intro w' hSw; (try dsimp only at hSw); go_simp; try with_reducible rfl⟩) (by assumption) ?_
        simp only [List.setIfInBounds_toArray, List.set_cons_zero, List.set_cons_succ]
        refine take_at (i := 10) (d := 27) (v := ?_) rfl rfl (by kernel_rfl) (by kernel_rfl) (by kernel_rfl) (fun _ _ _ h => h) (Or.inl ⟨by rfl, by intro w' hSw; (try dsimp only at hSw); go_simp; try with_reducible rfl⟩) (by assumption) ?_
        simp only [List.setIfInBounds_toArray, List.set_cons_zero, List.set_cons_succ]
        refine take_at (i := 11) (d := 28) (v := ?_) rfl rfl (by kernel_rfl) (by kernel_rfl) (by kernel_rfl) (fun _ _ _ h => h) (Or.inl ⟨by rfl, by intro w' hSw; (try dsimp only at hSw); go_simp; try with_reducible rfl⟩) (by assumption) ?_
        simp only [List.setIfInBounds_toArray, List.set_cons_zero, List.set_cons_succ]
        refine take_at (i := 12) (d := 29) (v := undef) rfl rfl (by kernel_rfl) (by kernel_rfl) (by kernel_rfl) (fun _ _ _ h => h) (Or.inr ⟨by rfl, rfl⟩) (by assumption) ?_
        simp only [List.setIfInBounds_toArray, List.set_cons_zero, List.set_cons_succ]
        refine take_at (i := 13) (d := 30) (v := undef) rfl rfl (by kernel_rfl) (by kernel_rfl) (by kernel_rfl) (fun _ _ _ h => h) (Or.inr ⟨by rfl, rfl⟩) (by assumption) ?_
        simp only [List.setIfInBounds_toArray, List.set_cons_zero, List.set_cons_succ]
        refine take_at (i := 14) (d := 31) (v := undef) rfl rfl (by kernel_rfl) (by kernel_rfl) (by kernel_rfl) (fun _ _ _ h => h) (Or.inr ⟨by rfl, rfl⟩) (by assumption) ?_
        simp only [List.setIfInBounds_toArray, List.set_cons_zero, List.set_cons_succ]
        refine take_at (i := 15) (d := 32) (v := undef) rfl rfl (by kernel_rfl) (by kernel_rfl) (by kernel_rfl) (fun _ _ _ h => h) (Or.inr ⟨by rfl, rfl⟩) (by assumption) ?_
        simp only [List.setIfInBounds_toArray, List.set_cons_zero, List.set_cons_succ]
        refine take_at (i := 16) (d := 33) (v := undef) rfl rfl (by kernel_rfl) (by kernel_rfl) (by kernel_rfl) (fun _ _ _ h => h) (Or.inr ⟨by rfl, rfl⟩) (by assumption) ?_
        simp only [List.setIfInBounds_toArray, List.set_cons_zero, List.set_cons_succ]
        refine take_at (i := 17) (d := 34) (v := undef) rfl rfl (by kernel_rfl) (by kernel_rfl) (by kernel_rfl) (fun _ _ _ h => h) (Or.inr ⟨by rfl, rfl⟩) (by assumption) ?_
        simp only [List.setIfInBounds_toArray, List.set_cons_zero, List.set_cons_succ]
        refine take_at (i := 18) (d := 35) (v := undef) rfl rfl (by kernel_rfl) (by kernel_rfl) (by kernel_rfl) (fun _ _ _ h => h) (Or.inr ⟨by rfl, rfl⟩) (by assumption) ?_
        simp only [List.setIfInBounds_toArray, List.set_cons_zero, List.set_cons_succ]
        refine take_at (i := 19) (d := 36) (v := undef) rfl rfl (by kernel_rfl) (by kernel_rfl) (by kernel_rfl) (fun _ _ _ h => h) (Or.inr ⟨by rfl, rfl⟩) (by assumption) ?_
        simp only [List.setIfInBounds_toArray, List.set_cons_zero, List.set_cons_succ]
        refine take_at (i := 20) (d := 37) (v := undef) rfl rfl (by kernel_rfl) (by kernel_rfl) (by kernel_rfl) (fun _ _ _ h => h) (Or.inr ⟨by rfl, rfl⟩) (by assumption) ?_
        simp only [List.setIfInBounds_toArray, List.set_cons_zero, List.set_cons_succ]
        refine take_at (i := 21) (d := 38) (v := undef) rfl rfl (by kernel_rfl) (by kernel_rfl) (by kernel_rfl) (fun _ _ _ h => h) (Or.inr ⟨by rfl, rfl⟩) (by assumption) ?_
        simp only [List.setIfInBounds_toArray, List.set_cons_zero, List.set_cons_succ]
        refine take_at (i := 22) (d := 39) (v := undef) rfl rfl (by kernel_rfl) (by kernel_rfl) (by kernel_rfl) (fun _ _ _ h => h) (Or.inr ⟨by rfl, rfl⟩) (by assumption) ?_
        simp only [List.setIfInBounds_toArray, List.set_cons_zero, List.set_cons_succ]
        refine take_at (i := 23) (d := 40) (v := undef) rfl rfl (by kernel_rfl) (by kernel_rfl) (by kernel_rfl) (fun _ _ _ h => h) (Or.inr ⟨by rfl, rfl⟩) (by assumption) ?_
        simp only [List.setIfInBounds_toArray, List.set_cons_zero, List.set_cons_succ]
        refine take_at (i := 24) (d := 41) (v := ?_) rfl rfl (by kernel_rfl) (by kernel_rfl) (by kernel_rfl) (fun _ _ _ h => h) (Or.inl ⟨by rfl, by intro w' hSw; (try dsimp only at hSw); go_simp; try with_reducible rfl⟩) (by assumption) ?_
        simp only [List.setIfInBounds_toArray, List.set_cons_zero, List.set_cons_succ]
        refine wpAnyH_done (by kernel_rfl) ?_ _
        go_wp2
        go_ret
        exact ⟨ret_bool HR.out.symm, HB.out.drew⟩
    · obtain rfl : k = n := by omega
      have c1 : ¬ (k : Int) < (k : Int) := by omega
      have HR : Hid (sameC (ersL es) (ersL fs) = true) := Lib.hid (by
        rw [HV.out, ← HA.out, List.take_of_length_le (by rw [HZ.out, HN.out]; exact Nat.le_refl _)])
      clear hlt
      go_wp2
      go_ret
      exact ⟨ret_bool HR.out.symm, HB.out⟩

end Go.Proofs.Ytbhoakohpfdeoaa
