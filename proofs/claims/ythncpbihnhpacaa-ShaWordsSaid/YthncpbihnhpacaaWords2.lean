/- cfllaw2.times: digits of 16 bits. -/
import Derived.Test.YthncpbihnhpacaaShaS
import Derived.Laws.BitsAllLaws
namespace Go.Proofs.Ythncpbihnhpacaa
open Go.RowKit
set_option linter.unusedVariables false
set_option linter.unusedSimpArgs false

/-- A row of uint64 at the head of a block, whole. -/
def RowU (w : World) (g : Nat) (L : List Int) : Prop := w.heap[g]? = some (.cells (L.map (Value.int .u64)).toArray 73 (0, 0))
theorem RowU.lt {w : World} {g : Nat} {L : List Int} (h : RowU w g L) : g < w.heap.size := blk_lt h
theorem RowU.same {w w' : World} {g : Nat} {L : List Int} (h : RowU w g L) (he : w'.heap[g]? = w.heap[g]?) : RowU w' g L := he.trans h
theorem RowU.cell {w : World} {g : Nat} {L : List Int} (h : RowU w g L) (j : Nat) (hj : j < L.length) : w.cell? ⟨g, j, none⟩ = some (.int .u64 (L.getD j 0)) ∧ w.frozen? ⟨g, j, none⟩ = false := by
  refine ⟨(blk_cell h j).trans ?_, blk_frozen h j⟩
  simp [List.getD, hj]
theorem RowU.set {w : World} {g : Nat} {L : List Int} (h : RowU w g L) (i : Nat) (v : Int) : RowU (w.setCell ⟨g, i, none⟩ (.int .u64 v)) g (L.set i v) := by
  have h1 := blk_set h i (.int .u64 v)
  refine h1.trans ?_
  congr 2
  simp [List.map_set]
theorem RowU.ints {w : World} {g : Nat} {L : List Int} (h : RowU w g L) : IntsAt .u64 w (some ⟨g, 0, none⟩) L :=
  Or.inr ⟨g, 0, rfl, fun i hi => by rw [Nat.zero_add]; exact (h.cell i hi).1⟩
theorem RowU.made (w : World) (n : Nat) : RowU (w.alloc (.cells (madeCells #[.int .u64 0] n) 73)) w.heap.size (List.replicate n 0) := by
  have h1 := heap_alloc_new w (.cells (madeCells #[.int .u64 0] n) 73)
  refine h1.trans ?_
  congr 2
  rw [← Array.toList_inj, toList_madeCells_one]
  simp
theorem Try_infoU64 : (Try.prog.info? 73).map (fun i => (i.zero, i.size, i.bytes)) = some (some (.int .u64 0), 1, 8) := by kernel_rfl

def Dig (L : List Int) : Prop := ∀ j, 0 ≤ L.getD j 0 ∧ L.getD j 0 < 65536
def mulK (ai : Int) (bs : List Int) (i : Nat) : Nat → List Int × Int → List Int × Int
  | 0, s => s
  | k + 1, s => ((mulK ai bs i k s).1.set (i + k) (((mulK ai bs i k s).1.getD (i + k) 0 + (mulK ai bs i k s).2 + ai * bs.getD k 0) % 65536), ((mulK ai bs i k s).1.getD (i + k) 0 + (mulK ai bs i k s).2 + ai * bs.getD k 0) / 65536)
def mulI (xs bs : List Int) : Nat → List Int
  | 0 => List.replicate (xs.length + bs.length + 1) 0
  | i + 1 => (mulK (xs.getD i 0) bs i bs.length (mulI xs bs i, 0)).1.set (i + bs.length) (mulK (xs.getD i 0) bs i bs.length (mulI xs bs i, 0)).2
def timesF (xs bs : List Int) : List Int := mulI xs bs xs.length

theorem getD_get (L : List Int) (j : Nat) (h : j < L.length) : L.getD j 0 = L[j] := by simp [List.getD, h]
theorem getD_set (L : List Int) (i j : Nat) (v : Int) : (L.set i v).getD j 0 = if i = j ∧ j < L.length then v else L.getD j 0 := by
  simp only [List.getD_eq_getElem?_getD, List.getElem?_set]
  by_cases e : i = j
  · subst e
    by_cases h : i < L.length
    · simp [h]
    · simp [h, List.getElem?_eq_none (Nat.not_lt.1 h)]
  · simp [e]
theorem Dig.set {L : List Int} (h : Dig L) (i : Nat) (v : Int) (hv : 0 ≤ v ∧ v < 65536) : Dig (L.set i v) := fun j => by
  rw [getD_set]
  split
  · exact hv
  · exact h j
theorem mul_dig {a b : Int} (ha : 0 ≤ a ∧ a < 65536) (hb : 0 ≤ b ∧ b < 65536) : 0 ≤ a * b ∧ a * b ≤ 4294836225 := by
  refine ⟨Int.mul_nonneg ha.1 hb.1, ?_⟩
  have : a * b ≤ 65535 * 65535 := Int.mul_le_mul (by omega) (by omega) hb.1 (by omega)
  omega
theorem mulK_facts {ai : Int} {bs : List Int} (i : Nat) (s : List Int × Int) (ha : 0 ≤ ai ∧ ai < 65536) (hb : Dig bs) (hs : Dig s.1) (hc : 0 ≤ s.2 ∧ s.2 < 65536) :
    ∀ k, Dig (mulK ai bs i k s).1 ∧ (0 ≤ (mulK ai bs i k s).2 ∧ (mulK ai bs i k s).2 < 65536) ∧ (mulK ai bs i k s).1.length = s.1.length ∧ ∀ j, i + k ≤ j → (mulK ai bs i k s).1.getD j 0 = s.1.getD j 0
  | 0 => ⟨hs, hc, rfl, fun _ _ => rfl⟩
  | k + 1 => by
    obtain ⟨h1, h2, h3, h4⟩ := mulK_facts i s ha hb hs hc k
    have hm := mul_dig ha (hb k)
    have ho := h1 (i + k)
    unfold mulK
    generalize mulK ai bs i k s = t at *
    generalize bs.getD k 0 = b at *
    generalize hz : ai * b = z at *
    clear hz
    refine ⟨h1.set _ _ (by constructor <;> omega), by constructor <;> (dsimp only; omega), by simp [h3], fun j hj => ?_⟩
    dsimp only
    rw [getD_set, if_neg (by omega)]
    exact h4 j (by omega)
theorem mulI_facts {xs bs : List Int} (ha : Dig xs) (hb : Dig bs) : ∀ i, Dig (mulI xs bs i) ∧ (mulI xs bs i).length = xs.length + bs.length + 1 ∧ ∀ j, i + bs.length ≤ j → (mulI xs bs i).getD j 0 = 0
  | 0 => by
    refine ⟨fun j => ?_, by simp [mulI], fun j _ => ?_⟩ <;> (unfold mulI; simp only [List.getD_eq_getElem?_getD, List.getElem?_replicate]; split <;> simp)
  | i + 1 => by
    obtain ⟨h1, h2, h3⟩ := mulI_facts ha hb i
    obtain ⟨k1, k2, k3, k4⟩ := mulK_facts (ai := xs.getD i 0) (bs := bs) i (mulI xs bs i, 0) (ha i) hb h1 ⟨by dsimp only; omega, by dsimp only; omega⟩ bs.length
    unfold mulI
    refine ⟨k1.set _ _ k2, by rw [List.length_set, k3, h2], fun j hj => ?_⟩
    rw [getD_set, if_neg (by omega), k4 j (by omega)]
    exact h3 j (by omega)
theorem mulI_zero {xs bs : List Int} (ha : Dig xs) (hb : Dig bs) (i : Nat) (h : (mulK (xs.getD i 0) bs i bs.length (mulI xs bs i, 0)).2 = 0) : mulI xs bs (i + 1) = (mulK (xs.getD i 0) bs i bs.length (mulI xs bs i, 0)).1 := by
  obtain ⟨h1, h2, h3⟩ := mulI_facts ha hb i
  obtain ⟨k1, k2, k3, k4⟩ := mulK_facts (ai := xs.getD i 0) (bs := bs) i (mulI xs bs i, 0) (ha i) hb h1 ⟨by dsimp only; omega, by dsimp only; omega⟩ bs.length
  have h5 := k4 (i + bs.length) (Nat.le_refl _)
  have h6 := h3 (i + bs.length) (Nat.le_refl _)
  dsimp only at h5
  rw [h6] at h5
  rw [mulI, h]
  refine List.ext_getElem (by simp) (fun j h7 h8 => ?_)
  rw [List.getElem_set]
  split
  · rename_i e
    subst e
    have h9 : (mulK (xs.getD i 0) bs i bs.length (mulI xs bs i, 0)).1.getD (i + bs.length) 0 = (mulK (xs.getD i 0) bs i bs.length (mulI xs bs i, 0)).1[i + bs.length] := getD_get _ _ h8
    exact h5.symm.trans h9
  · rfl
theorem u64_low (x : Int) (h0 : 0 ≤ x) (h1 : x < 4294967296) : bits .and .u64 x 65535 = x % 65536 := by
  obtain ⟨n, rfl⟩ := Int.eq_ofNat_of_zero_le h0
  rw [show (65535 : Int) = ((65535 : Nat) : Int) from rfl, u64_and_nat n 65535 (by omega) (by omega), show (65535 : Nat) = 2 ^ 16 - 1 from rfl, Nat.and_two_pow_sub_one_eq_mod]
  omega

theorem wrap_u64_small (x : Int) (h0 : 0 ≤ x) (h1 : x < 4294967296) : IntKind.u64.wrap x = x := by
  have e : IntKind.u64.wrap x = x % 18446744073709551616 := by simp [IntKind.wrap, IntKind.bits, IntKind.signed]
  rw [e]
  omega
theorem sum_small {O c z : Int} (ho : 0 ≤ O ∧ O < 65536) (hc : 0 ≤ c ∧ c < 65536) (hz : 0 ≤ z ∧ z ≤ 4294836225) : 0 ≤ O + c + z ∧ O + c + z < 4294967296 := by omega

set_option maxRecDepth 100000 in
set_option maxHeartbeats 2000000 in
theorem times_any (ao bo : Option Addr) (xs bs : List Int) (n m c d : Nat) (w : World) (hn : xs.length = n) (hm : bs.length = m) (hx : IntsAt .u64 w ao xs) (hy : IntsAt .u64 w bo bs) (ha : Dig xs) (hb : Dig bs) (hn0 : n ≤ 20) (hm0 : m ≤ 20) :
    Calls Try.prog 48 #[.slice ao n c, .slice bo m d] w fun e w' => e = .returned (.slice (some ⟨w.heap.size, 0, none⟩) (n + m + 1) (n + m + 1)) ∧ RowU w' w.heap.size (timesF xs bs) ∧ Below w.heap.size w w' := by
  have HN := Lib.hid hn
  have HM := Lib.hid hm
  have HX := Lib.hid hx
  have HY := Lib.hid hy
  have HA := Lib.hid ha
  have HB := Lib.hid hb
  have HN0 := Lib.hid hn0
  have HM0 := Lib.hid hm0
  have hmk : ∀ w : World, (Instr.makeSlice 85 (.int .i64 ((n : Int) + (m : Int) + 1)) (.int .i64 ((n : Int) + (m : Int) + 1))).run Try.prog w = .ok (.slice (some ⟨w.heap.size, 0, none⟩) (n + m + 1) (n + m + 1)) (w.alloc (.cells (madeCells #[.int .u64 0] (n + m + 1)) 73)) := fun w => run_make_row' (P := Try.prog) 85 73 (.int .u64 0) 8 Try.underlying85 Try_infoU64 rfl .i64 .i64 (n + m + 1) (by omega) (by omega) w
  have h1 : wrap64 ((n : Int) + (m : Int)) = (n : Int) + (m : Int) := by unfold wrap64; omega
  have h2 : wrap64 ((n : Int) + (m : Int) + 1) = (n : Int) + (m : Int) + 1 := by unfold wrap64; omega
  clear hn hm hx hy ha hb hn0 hm0
  go_enter Try.func48, Try.ntmps48
  go_upto_region 2 with fail
  obtain ⟨w1, hw1⟩ : ∃ w1, w1 = w.alloc (.cells (madeCells #[.int .u64 0] (n + m + 1)) 73) := ⟨_, rfl⟩
  have HR1 : Hid (RowU w1 w.heap.size (mulI xs bs 0)) := Lib.hid (by rw [hw1, mulI, HN.out, HM.out]; exact RowU.made w _)
  have HB1 : Hid (Below w.heap.size w w1) := Lib.hid (by rw [hw1]; exact (Below.refl _ _).alloc (Nat.le_refl _) _)
  rw [← hw1]
  clear hw1 hmk h1 h2
  go_wp2_with fail
  go_loopw [6] (fun s wr => ∃ i : Nat, i ≤ n ∧ s = .int .i64 i ∧ RowU wr w.heap.size (mulI xs bs i) ∧ Below w.heap.size w wr) (fun s _ => n - (intOf s).toNat)
  case atStart => exact ⟨0, Nat.zero_le _, rfl, HR1.out, HB1.out⟩
  case round =>
    obtain ⟨i, hi, rfl, hr, hbw⟩ := hrel
    have HR := Lib.hid hr
    have HBW := Lib.hid hbw
    clear hr hbw
    by_cases hlt : i < n
    · have b0 : (0 : Int) ≤ (i : Int) := by omega
      have b1 : (i : Int) < (n : Int) := by omega
      go_wp2_with fail
      go_loopw [7, 8] (fun s7 s8 wx => ∃ (k : Nat) (c : Int) (L : List Int), s8 = .int .i64 k ∧ s7 = .int .u64 c ∧ RowU wx w.heap.size L ∧ Below w.heap.size w wx ∧ ((k ≤ m ∧ (L, c) = mulK (xs.getD i 0) bs i k (mulI xs bs i, 0)) ∨ (k = m + 1 ∧ c = 0 ∧ L = mulI xs bs (i + 1)))) (fun _ s8 _ => m + 2 - (intOf s8).toNat)
      case atStart => exact ⟨0, 0, _, rfl, rfl, HR.out, HBW.out, Or.inl ⟨Nat.zero_le _, rfl⟩⟩
      case round =>
        obtain ⟨k, cy, L, rfl, rfl, hr, hbx, hph⟩ := hrel
        have HRX := Lib.hid hr
        have HBX := Lib.hid hbx
        have HPH := Lib.hid hph
        clear hr hbx hph
        have HF := Lib.hid (mulI_facts HA.out HB.out i)
        have HKF := Lib.hid (mulK_facts (ai := xs.getD i 0) (bs := bs) i (mulI xs bs i, 0) (HA.out i) HB.out HF.out.1 ⟨by dsimp only; omega, by dsimp only; omega⟩)
        have HLL : Hid (L.length = n + m + 1) := Lib.hid (by
          rcases HPH.out with ⟨_, h⟩ | ⟨_, _, h⟩
          · have h1 := (HKF.out k).2.2.1
            rw [← h] at h1
            exact h1.trans (by rw [HF.out.2.1, HN.out, HM.out])
          · rw [h, (mulI_facts HA.out HB.out (i + 1)).2.1, HN.out, HM.out])
        have e0 : (0 : Int) ≤ (k : Int) := by omega
        by_cases hkm : k < m
        · obtain ⟨hk1, hst⟩ : k ≤ m ∧ (L, cy) = mulK (xs.getD i 0) bs i k (mulI xs bs i, 0) := by
            rcases HPH.out with h | ⟨h, _⟩
            · exact h
            · omega
          have HST := Lib.hid hst
          have HCY : Hid (0 ≤ cy ∧ cy < 65536) := Lib.hid (by have := (HKF.out k).2.1; rw [← hst] at this; exact this)
          have HNX : Hid (mulK (xs.getD i 0) bs i (k + 1) (mulI xs bs i, 0) = (L.set (i + k) ((L.getD (i + k) 0 + cy + xs.getD i 0 * bs.getD k 0) % 65536), (L.getD (i + k) 0 + cy + xs.getD i 0 * bs.getD k 0) / 65536)) := Lib.hid (by rw [mulK, ← hst])
          have HO : Hid (0 ≤ L.getD (i + k) 0 ∧ L.getD (i + k) 0 < 65536) := Lib.hid (by have := (HKF.out k).1; rw [← hst] at this; exact this (i + k))
          clear hst
          obtain ⟨cc, cf⟩ := HRX.out.cell (i + k) (by rw [HLL.out]; omega)
          obtain ⟨b, off, rfl, cx⟩ : ∃ b off, ao = some ⟨b, off, none⟩ ∧ wr.cell? ⟨b, off + i, none⟩ = some (.int .u64 (xs.getD i 0)) := by
            have hkk : i < xs.length := by rw [HN.out]; exact hlt
            rcases (ints_below HX.out HBX.out) with h | ⟨b, off, h1, h2⟩
            · rw [h] at hkk; simp at hkk
            · exact ⟨b, off, h1, h2 i hkk⟩
          obtain ⟨b', off', rfl, cy2⟩ : ∃ b off, bo = some ⟨b, off, none⟩ ∧ wr.cell? ⟨b, off + k, none⟩ = some (.int .u64 (bs.getD k 0)) := by
            have hkk : k < bs.length := by rw [HM.out]; exact hkm
            rcases (ints_below HY.out HBX.out) with h | ⟨b, off, h1, h2⟩
            · rw [h] at hkk; simp at hkk
            · exact ⟨b, off, h1, h2 k hkk⟩
          have HMD := Lib.hid (mul_dig (HA.out i) (HB.out k))
          generalize xs.getD i 0 = X at *
          generalize bs.getD k 0 = Y at *
          generalize L.getD (i + k) 0 = O at *
          have b2 : (k : Int) < (m : Int) := by omega
          have w1 : wrap64 ((i : Int) + (k : Int)) = (i : Int) + (k : Int) := by have := HN0.out; have := HM0.out; unfold wrap64; omega
          have w2 : ((i : Int) + (k : Int)).toNat = i + k := by omega
          have b4 : (0 : Int) ≤ (i : Int) + (k : Int) := by omega
          have b3 : (i : Int) + (k : Int) < (n : Int) + (m : Int) + 1 := by omega
          have HSS := Lib.hid (sum_small HO.out HCY.out HMD.out)
          have wa : IntKind.u64.wrap (O + cy) = O + cy := wrap_u64_small _ (by have := HO.out; have := HCY.out; omega) (by have := HO.out; have := HCY.out; omega)
          have wb : IntKind.u64.wrap (X * Y) = X * Y := wrap_u64_small _ HMD.out.1 (by have := HMD.out; omega)
          have wc : IntKind.u64.wrap (O + cy + X * Y) = O + cy + X * Y := wrap_u64_small _ HSS.out.1 HSS.out.2
          have wd : bits .and .u64 (O + cy + X * Y) 65535 = (O + cy + X * Y) % 65536 := u64_low _ HSS.out.1 HSS.out.2
          go_wp2_with fail
          go_quiet (fail)
          generalize hv : O + cy + X * Y = V at *
          have HV := Lib.hid hv
          clear hv wa wb
          go_wp2_with fail
          have hkw : wrap64 ((k : Int) + 1) = (k : Int) + 1 := by have := HM0.out; unfold wrap64; omega
          have hke : ((k + 1 : Nat) : Int) = (k : Int) + 1 := by omega
          have hk1m : k + 1 ≤ m := by clear wc wd; omega
          have hms : m + 2 - (k + 1) < m + 2 - k := by clear wc wd; omega
          clear wc wd
          refine ⟨⟨k + 1, _, L.set (i + k) (V % 65536), by first | rw [hkw, hke] | rw [hke], rfl, (HRX.out.same (w' := wr.drewN nq) rfl).set (i + k) (V % 65536), (((Keeps.of_below (S := fun _ => False) HBX.out).drewN nq).setCell (p := ⟨w.heap.size, i + k, none⟩) (Or.inr (Nat.le_refl _)) _).below (Nat.le_refl _) (fun _ h => h.elim), Or.inl ⟨hk1m, HNX.out.symm⟩⟩, ?_⟩
          try rw [hkw]
          rw [← hke]
          exact hms
        · by_cases hc0 : 0 < cy
          · obtain ⟨rfl, hst⟩ : k = m ∧ (L, cy) = mulK (xs.getD i 0) bs i k (mulI xs bs i, 0) := by
              rcases HPH.out with ⟨h1, h2⟩ | ⟨_, h, _⟩
              · exact ⟨by omega, h2⟩
              · omega
            have HCY : Hid (0 ≤ cy ∧ cy < 65536) := Lib.hid (by have := (HKF.out k).2.1; rw [← hst] at this; exact this)
            have HO : Hid (L.getD (i + k) 0 = 0) := Lib.hid (by
              have h1 := (HKF.out k).2.2.2 (i + k) (Nat.le_refl _)
              rw [← hst] at h1
              exact h1.trans (HF.out.2.2 (i + k) (by rw [HM.out]; exact Nat.le_refl _)))
            have HE : Hid (mulI xs bs (i + 1) = L.set (i + k) cy) := Lib.hid (by rw [mulI, HM.out, ← hst])
            clear hst
            obtain ⟨cc, cf⟩ := HRX.out.cell (i + k) (by rw [HLL.out]; omega)
            rw [HO.out] at cc
            have b2 : ¬ (k : Int) < (k : Int) := by omega
            have w1 : wrap64 ((i : Int) + (k : Int)) = (i : Int) + (k : Int) := by have := HN0.out; have := HM0.out; unfold wrap64; omega
            have w2 : ((i : Int) + (k : Int)).toNat = i + k := by omega
            have b4 : (0 : Int) ≤ (i : Int) + (k : Int) := by omega
            have b3 : (i : Int) + (k : Int) < (n : Int) + (k : Int) + 1 := by omega
            have wa : IntKind.u64.wrap cy = cy := wrap_u64_small _ HCY.out.1 (by have := HCY.out; omega)
            have wb : IntKind.u64.wrap (0 + cy) = cy := by rw [Int.zero_add]; exact wa
            have wd : bits .and .u64 cy 65535 = cy := (u64_low _ HCY.out.1 (by have := HCY.out; omega)).trans (by have := HCY.out; omega)
            have we : cy / 65536 = 0 := by have := HCY.out; omega
            have hkw : wrap64 ((k : Int) + 1) = (k : Int) + 1 := by have := HM0.out; unfold wrap64; omega
            have hke : ((k + 1 : Nat) : Int) = (k : Int) + 1 := by omega
            have hms : k + 2 - (k + 1) < k + 2 - k := by clear wa wb wd we hc0; omega
            go_wp2_with fail
            clear wa wb wd hc0
            refine ⟨⟨k + 1, 0, L.set (i + k) cy, by first | rw [hkw, hke] | rw [hke], by first | rfl | rw [we], HRX.out.set (i + k) cy, ((Keeps.of_below (S := fun _ => False) HBX.out).setCell (p := ⟨w.heap.size, i + k, none⟩) (Or.inr (Nat.le_refl _)) _).below (Nat.le_refl _) (fun _ h => h.elim), Or.inr ⟨rfl, rfl, HE.out.symm⟩⟩, ?_⟩
            try rw [hkw]
            rw [← hke]
            exact hms
          · have HX1 : Hid (RowU wr w.heap.size (mulI xs bs (i + 1))) := Lib.hid (by
              rcases HPH.out with ⟨h1, h2⟩ | ⟨_, _, h⟩
              · have hk : k = m := by omega
                subst hk
                have h3 := (HKF.out k).2.1
                rw [← h2] at h3
                dsimp only at h3
                have h4 : cy = 0 := by omega
                have h5 := mulI_zero HA.out HB.out i (by rw [HM.out, ← h2]; exact h4)
                rw [HM.out, ← h2] at h5
                rw [h5]
                exact HRX.out
              · rw [← h]; exact HRX.out)
            have hiw : wrap64 ((i : Int) + 1) = (i : Int) + 1 := by have := HN0.out; unfold wrap64; omega
            have hie : ((i + 1 : Nat) : Int) = (i : Int) + 1 := by omega
            go_wp2_with fail
            refine ⟨⟨i + 1, by omega, by first | rw [hiw, hie] | rw [hie], HX1.out, HBX.out⟩, ?_⟩
            try rw [hiw]
            simp only [intOf]
            omega
    · obtain rfl : i = n := by omega
      have HE : Hid (mulI xs bs i = timesF xs bs) := Lib.hid (by unfold timesF; rw [HN.out])
      go_wp2_with fail
      go_ret
      exact ⟨rfl, HE.out ▸ HR.out, HBW.out⟩

end Go.Proofs.Ythncpbihnhpacaa
