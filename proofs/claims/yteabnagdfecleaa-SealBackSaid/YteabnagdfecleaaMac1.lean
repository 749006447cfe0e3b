/- Package mac: the pure tag; rows by lists; padded; Equal. -/
import Derived.Test.YteabnagdfecleaaShaS
import Derived.Laws.CopyOwn
import Derived.Laws.BitsAllLaws
namespace Go.Proofs.Yteabnagdfecleaa
open Go.RowKit
set_option linter.unusedVariables false
set_option linter.unusedSimpArgs false

def xorB (z c : Int) : Int := bits .xor .u8 z c
def padB (zs : List Int) (c : Int) : List Int := (List.range 64).map (fun i => xorB (zs.getD i 0) c)
def macK (key : List Int) : List Int := if 64 < key.length then shaF key else key
def macF (key b : List Int) : List Int := shaF (padB (macK key) 92 ++ shaF (padB (macK key) 54 ++ b))
theorem padB_len (zs : List Int) (c : Int) : (padB zs c).length = 64 := by simp [padB]
theorem macF_len (key b : List Int) : (macF key b).length = 32 := shaF_len _
theorem xorB_in (z c : Int) : 0 ≤ xorB z c ∧ xorB z c ≤ 255 := by
  unfold xorB bits
  rw [IntKind.wrap_u8']
  omega
theorem padB_inB (zs : List Int) (c : Int) : InB (padB zs c) := fun z hz => by
  unfold padB at hz
  obtain ⟨i, _, rfl⟩ := List.mem_map.1 hz
  have := xorB_in (zs.getD i 0) c
  constructor <;> omega
theorem macF_inB (key b : List Int) : InB (macF key b) := shaF_inB _
theorem macK_inB {key : List Int} (h : InB key) : InB (macK key) := by
  unfold macK
  split
  · exact shaF_inB _
  · exact h

theorem or_zero {a b : Int} (h1 : 0 ≤ a) (h2 : a < 256) (h3 : 0 ≤ b) (h4 : b < 256) : bits .or .u8 a b = 0 ↔ a = 0 ∧ b = 0 := by
  rw [u8_or a b h1 h2 h3 h4]
  constructor
  · intro h
    have h5 : a.toNat ||| b.toNat = 0 := by omega
    have := Nat.or_eq_zero_iff.1 h5
    omega
  · rintro ⟨rfl, rfl⟩; rfl
theorem or_in8 (a b : Int) : 0 ≤ bits .or .u8 a b ∧ bits .or .u8 a b < 256 := by
  unfold bits
  rw [IntKind.wrap_u8']
  omega
theorem xor_in8 (a b : Int) : 0 ≤ bits .xor .u8 a b ∧ bits .xor .u8 a b < 256 := by
  unfold bits
  rw [IntKind.wrap_u8']
  omega
theorem xor_zero {a b : Int} (h1 : 0 ≤ a) (h2 : a < 256) (h3 : 0 ≤ b) (h4 : b < 256) : bits .xor .u8 a b = 0 ↔ a = b := by
  rw [u8_xor a b h1 h2 h3 h4]
  constructor
  · intro h
    have h5 : a.toNat ^^^ b.toNat = 0 := by omega
    have h6 : a.toNat = b.toNat := by
      have h7 : a.toNat ^^^ b.toNat ^^^ b.toNat = b.toNat := by rw [h5, Nat.zero_xor]
      rwa [Nat.xor_assoc, Nat.xor_self, Nat.xor_zero] at h7
    omega
  · rintro rfl; simp

/-- A row of bytes at the head of a block, whole. -/
def RowL (w : World) (g : Nat) (L : List Int) : Prop := w.heap[g]? = some (.cells (L.map (Value.int .u8)).toArray 5 (0, 0))
theorem RowL.lt {w : World} {g : Nat} {L : List Int} (h : RowL w g L) : g < w.heap.size := blk_lt h
theorem RowL.same {w w' : World} {g : Nat} {L : List Int} (h : RowL w g L) (he : w'.heap[g]? = w.heap[g]?) : RowL w' g L := he.trans h
theorem RowL.cell {w : World} {g : Nat} {L : List Int} (h : RowL w g L) (j : Nat) (hj : j < L.length) : w.cell? ⟨g, j, none⟩ = some (.int .u8 (L.getD j 0)) ∧ w.frozen? ⟨g, j, none⟩ = false := by
  refine ⟨(blk_cell h j).trans ?_, blk_frozen h j⟩
  simp [List.getD, hj]
theorem RowL.set {w : World} {g : Nat} {L : List Int} (h : RowL w g L) (i : Nat) (v : Int) : RowL (w.setCell ⟨g, i, none⟩ (.int .u8 v)) g (L.set i v) := by
  have h1 := blk_set h i (.int .u8 v)
  refine h1.trans ?_
  congr 2
  simp [List.map_set]
theorem RowL.own {w : World} {g : Nat} {L : List Int} (h : RowL w g L) (n : Nat) (hn : L.length = n) (hm : n ≤ maxLen) : w.ownsRow 0 5 1 (.slice (some ⟨g, 0, none⟩) n n) n (L.map (Value.int .u8)) := by
  subst hn
  exact ⟨by simp, Or.inr ⟨g, L.length, _, rfl, Nat.zero_le _, h, Nat.le_refl _, hm, by simp, by simp only [Nat.mul_one, List.toList_toArray]; rw [List.take_of_length_le (by simp)]⟩⟩
theorem RowL.ints {w : World} {g : Nat} {L : List Int} (h : RowL w g L) : IntsAt .u8 w (some ⟨g, 0, none⟩) L :=
  Or.inr ⟨g, 0, rfl, fun i hi => by rw [Nat.zero_add]; exact (h.cell i hi).1⟩
theorem RowL.made (w : World) (n : Nat) : RowL (w.alloc (.cells (madeCells #[.int .u8 0] n) 5)) w.heap.size (List.replicate n 0) := by
  have h1 := heap_alloc_new w (.cells (madeCells #[.int .u8 0] n) 5)
  refine h1.trans ?_
  congr 2
  rw [← Array.toList_inj, toList_madeCells_one]
  simp

def padPre (zs : List Int) (c : Int) (k : Nat) : List Int := (List.range 64).map (fun j => if j < k then xorB (zs.getD j 0) c else zs.getD j 0)
theorem padPre_len (zs : List Int) (c : Int) (k : Nat) : (padPre zs c k).length = 64 := by simp [padPre]
theorem padPre_all (zs : List Int) (c : Int) : padPre zs c 64 = padB zs c := by
  unfold padPre padB
  refine List.map_congr_left (fun j hj => ?_)
  rw [if_pos (List.mem_range.1 hj)]
theorem padPre_at (zs : List Int) (c : Int) (k : Nat) (h : k < 64) : (padPre zs c k).getD k 0 = zs.getD k 0 := by
  unfold padPre
  simp only [List.getD_eq_getElem?_getD, List.getElem?_map, List.getElem?_range h, Option.map_some, Option.getD_some, Nat.lt_irrefl, if_false]
theorem padPre_step (zs : List Int) (c : Int) (k : Nat) (h : k < 64) : (padPre zs c k).set k (xorB (zs.getD k 0) c) = padPre zs c (k + 1) := by
  refine List.ext_getElem (by simp [padPre]) (fun j h1 h2 => ?_)
  rw [List.getElem_set]
  simp only [padPre, List.getElem_map, List.getElem_range]
  by_cases e : k = j
  · subst e; simp
  · rw [if_neg e]
    by_cases e2 : j < k
    · rw [if_pos e2, if_pos (by omega)]
    · rw [if_neg e2, if_neg (by omega)]
theorem padPre_zero (zs : List Int) (c : Int) : padPre zs c 0 = (zs.take 64) ++ List.replicate (64 - zs.length) 0 := by
  refine List.ext_getElem (by simp [padPre]; omega) (fun j h1 h2 => ?_)
  unfold padPre at h1 ⊢
  simp only [List.length_map, List.length_range] at h1
  simp only [List.getElem_map, List.getElem_range, Nat.not_lt_zero, if_false, List.getElem_append, List.length_take]
  by_cases e : j < zs.length
  · rw [dif_pos (by omega)]; simp [List.getD, e]
  · rw [dif_neg (by omega)]; simp [List.getD, List.getElem?_eq_none (Nat.not_lt.1 e)]

theorem tab_keep {w w' : World} {b : Nat} {S : Nat → Prop} (h : TabOk w b) (hk : Keeps S w w') (hS : ¬ S b) : TabOk w' b := h.same (hk.block b h.lt hS)
theorem below_fp {a b c : World} {S : Nat → Prop} (h : Below a.heap.size a b) (hk : Keeps S b c) (hS : ∀ i, S i → a.heap.size ≤ i) : Below a.heap.size a c :=
  ((Keeps.of_below (S := fun _ => False) h).trans hk (fun k e => Or.inr (hS k e))).below (Nat.le_refl _) (fun _ h => h.elim)
theorem splice_pad (zs : List Int) : splice ((List.replicate 64 (0 : Int)).map (Value.int .u8)) 0 ((zs.take 64).map (Value.int .u8)) = (zs.take 64 ++ List.replicate (64 - zs.length) 0).map (Value.int .u8) := by
  unfold splice
  rw [List.take_zero, List.nil_append, Nat.zero_add, List.map_append, List.length_map, List.length_take, List.map_replicate, List.map_replicate, List.drop_replicate]
  congr 2
  omega

set_option maxRecDepth 100000 in
set_option maxHeartbeats 1000000 in
theorem padded_any (ao : Option Addr) (zs : List Int) (n cap : Nat) (c : Int) (w : World) (hn : zs.length = n) (hz : IntsAt .u8 w ao zs) :
    Calls Try.prog 72 #[.slice ao n cap, .int .u8 c] w fun e w' => e = .returned (.slice (some ⟨w.heap.size, 0, none⟩) 64 64) ∧ RowL w' w.heap.size (padB zs c) ∧ Below w.heap.size w w' := by
  have HN := Lib.hid hn
  have HZ := Lib.hid hz
  clear hn hz
  have hmk : ∀ w : World, (Instr.makeSlice 22 (.int .i64 64) (.int .i64 64)).run Try.prog w = .ok (.slice (some ⟨w.heap.size, 0, none⟩) 64 64) (w.alloc (.cells (madeCells #[.int .u8 0] 64) 5)) := fun w => run_make_row' (P := Try.prog) 22 5 (.int .u8 0) 1 Try.underlying22 Try_infoU8 rfl .i64 .i64 64 (by omega) (by omega) w
  go_enter Try.func72, Try.ntmps72
  go_upto_region 2 with fail
  obtain ⟨w1, hw1⟩ : ∃ w1, w1 = w.alloc (.cells (madeCells #[.int .u8 0] 64) 5) := ⟨_, rfl⟩
  have HR1 : Hid (RowL w1 w.heap.size (List.replicate 64 0)) := Lib.hid (by rw [hw1]; exact RowL.made w 64)
  have HB1 : Hid (Below w.heap.size w w1) := Lib.hid (by rw [hw1]; exact (Below.refl _ _).alloc (Nat.le_refl _) _)
  rw [← hw1]
  clear hw1
  have HZ1 := Lib.hid (ints_below HZ.out HB1.out)
  obtain ⟨cs, hcs⟩ : ∃ cs, cs = (zs.take 64).map (Value.int .u8) := ⟨_, rfl⟩
  obtain ⟨cur, hcur⟩ : ∃ cur, cur = (List.replicate 64 (0 : Int)).map (Value.int .u8) := ⟨_, rfl⟩
  have HCL : Hid (cs.length = min n 64) := Lib.hid (by rw [hcs, List.length_map, List.length_take, HN.out, Nat.min_comm])
  have HUL : Hid (cur.length = 64) := Lib.hid (by rw [hcur]; simp)
  have HCS := Lib.hid hcs
  have HCUR := Lib.hid hcur
  have HG1 : Hid (w1.heap[w.heap.size]? = some (.cells cur.toArray 5 (0, 0))) := Lib.hid (by rw [hcur]; exact HR1.out)
  clear hcs hcur
  go_wp2_with (refine wpList_copy_splice rfl _ _ 22 22 rfl 5 Try.underlying22 (by kernel_rfl) (some ⟨w.heap.size, 0, none⟩) ao 64 64 n cap rfl rfl w.heap.size 0 cur 5 HG1.out cs ?c1 ?c2 ?c3 ?c4 w.heap.size w HB1.out (Nat.le_refl _) ?_)
  case c1 => exact HCL.out
  case c2 =>
    intro h0
    rw [HCS.out] at h0
    cases ao with
    | none => have := ints_none HZ1.out; rw [List.length_map, List.length_take] at h0; omega
    | some ad =>
      refine ⟨ad, rfl, fun j v hj => ?_⟩
      rw [HCS.out] at hj
      exact src_ints (HZ1.out.take 64) ad rfl j v hj
  case c3 => have := HCL.out; have := HUL.out; omega
  case c4 => rw [HCS.out]; exact ints_one _ _
  intro w2 hg2 hb2
  have HB2 := Lib.hid hb2
  have HR2 : Hid (RowL w2 w.heap.size (padPre zs c 0)) := Lib.hid (by
    unfold RowL
    rw [hg2.out, padPre_zero, HCS.out, HCUR.out, splice_pad])
  clear hb2 hg2 HG1 HR1 HZ1 HB1
  generalize cs.length = cl at *
  clear HCS HCUR HUL HCL
  go_wp2_with fail
  go_loopw [13] (fun i wr => ∃ k : Nat, k ≤ 64 ∧ i = .int .i64 k ∧ RowL wr w.heap.size (padPre zs c k) ∧ Below w.heap.size w wr) (fun i _ => 64 - (intOf i).toNat)
  case atStart => exact ⟨0, by omega, rfl, HR2.out, HB2.out⟩
  case round =>
    obtain ⟨k, hk, rfl, hr, hb⟩ := hrel
    have HR := Lib.hid hr
    have HB := Lib.hid hb
    clear hr hb
    by_cases hlt : k < 64
    · obtain ⟨cc, cf⟩ := HR.out.cell k (by rw [padPre_len]; exact hlt)
      rw [padPre_at zs c k hlt] at cc
      have HS := Lib.hid (HR.out.set k (xorB (zs.getD k 0) c))
      rw [padPre_step zs c k hlt] at HS
      unfold xorB at HS
      generalize zs.getD k 0 = z at *
      have b0 : (0 : Int) ≤ (k : Int) := by omega
      have b1 : (k : Int) < 64 := by omega
      have HB2 : Hid (Below w.heap.size w (wr.setCell ⟨w.heap.size, k, none⟩ (.int .u8 (bits .xor .u8 z c)))) := Lib.hid (below_fp HB.out ((Keeps.refl (fun i => i = w.heap.size) wr).setCell (p := ⟨w.heap.size, k, none⟩) (Or.inl rfl) _) (fun i hi => by omega))
      have hke : ((k + 1 : Nat) : Int) = (k : Int) + 1 := by omega
      go_wp2_with fail
      refine ⟨⟨k + 1, by omega, by rw [hke], HS.out, HB2.out⟩, ?_⟩
      simp only [intOf]
      omega
    · obtain rfl : k = 64 := by omega
      have HE := Lib.hid (padPre_all zs c)
      go_wp2_with fail
      go_ret
      exact ⟨rfl, HE.out ▸ HR.out, HB.out⟩

/-! Equal. -/
theorem eqB_take_succ (xs ys : List Int) (k : Nat) (hx : k < xs.length) (hy : k < ys.length) : eqB (xs.take (k + 1)) (ys.take (k + 1)) = (eqB (xs.take k) (ys.take k) && (xs.getD k 0 == ys.getD k 0)) := by
  unfold eqB
  have ex : xs.getD k 0 = xs[k] := by simp [List.getD, hx]
  have ey : ys.getD k 0 = ys[k] := by simp [List.getD, hy]
  rw [List.take_succ_eq_append_getElem hx, List.take_succ_eq_append_getElem hy, Bool.eq_iff_iff, ex, ey]
  simp only [decide_eq_true_eq, Bool.and_eq_true, beq_iff_eq]
  constructor
  · intro h
    have h1 := List.append_inj' h rfl
    exact ⟨h1.1, by simpa using h1.2⟩
  · rintro ⟨h1, h2⟩
    rw [h1, h2]
theorem inB_getD {zs : List Int} (h : InB zs) (k : Nat) : 0 ≤ zs.getD k 0 ∧ zs.getD k 0 < 256 := by
  by_cases hk : k < zs.length
  · have := h (zs.getD k 0) (by simp [List.getD, hk])
    omega
  · simp [List.getD, List.getElem?_eq_none (Nat.not_lt.1 hk)]
theorem eqB_step {v x y : Int} {B : Bool} (hv : 0 ≤ v ∧ v < 256) (hx : 0 ≤ x ∧ x < 256) (hy : 0 ≤ y ∧ y < 256) (h : (v == 0) = B) : (bits .or .u8 v (bits .xor .u8 x y) == 0) = (B && (x == y)) := by
  subst h
  have h1 := xor_in8 x y
  rw [Bool.eq_iff_iff]
  simp only [beq_iff_eq, Bool.and_eq_true]
  rw [or_zero hv.1 hv.2 h1.1 h1.2, xor_zero hx.1 hx.2 hy.1 hy.2]

set_option maxRecDepth 100000 in
set_option maxHeartbeats 1000000 in
theorem equal_any (ao bo : Option Addr) (xs ys : List Int) (n m c d : Nat) (w : World) (hn : xs.length = n) (hm : ys.length = m) (hx : IntsAt .u8 w ao xs) (hy : IntsAt .u8 w bo ys) (rx : InB xs) (ry : InB ys) (hl : n ≤ 140737488355328) :
    Calls Try.prog 44 #[.slice ao n c, .slice bo m d] w fun e w' => e = .returned (.bool (eqB xs ys)) ∧ Below w.heap.size w w' := by
  have HN := Lib.hid hn
  have HM := Lib.hid hm
  have HX := Lib.hid hx
  have HY := Lib.hid hy
  have RX := Lib.hid rx
  have RY := Lib.hid ry
  have HL := Lib.hid hl
  clear hn hm hx hy rx ry hl
  by_cases hnm : (n : Int) = (m : Int)
  · have hnm : n = m := by omega
    subst hnm
    go_enter Try.func44, Try.ntmps44
    go_wp2_with fail
    go_loopw [5, 14] (fun s i wr => ∃ (k : Nat) (v : Int), k ≤ n ∧ i = .int .i64 k ∧ s = .int .u8 v ∧ (0 ≤ v ∧ v < 256) ∧ ((v == 0) = eqB (xs.take k) (ys.take k)) ∧ Below w.heap.size w wr) (fun _ i _ => n - (intOf i).toNat)
    case atStart => exact ⟨0, 0, Nat.zero_le _, rfl, rfl, ⟨by omega, by omega⟩, rfl, Below.refl _ _⟩
    case round =>
      obtain ⟨k, v, hk, rfl, rfl, hv, he, hb⟩ := hrel
      have HV := Lib.hid hv
      have HE := Lib.hid he
      have HB := Lib.hid hb
      clear hv he hb
      by_cases hlt : k < n
      · have hkx : k < xs.length := by rw [HN.out]; exact hlt
        have hky : k < ys.length := by rw [HM.out]; exact hlt
        have HT := Lib.hid (eqB_take_succ xs ys k hkx hky)
        obtain ⟨b, off, rfl, cx⟩ : ∃ b off, ao = some ⟨b, off, none⟩ ∧ wr.cell? ⟨b, off + k, none⟩ = some (.int .u8 (xs.getD k 0)) := by
          rcases (ints_below HX.out HB.out) with h | ⟨b, off, h1, h2⟩
          · rw [h] at hkx; simp at hkx
          · exact ⟨b, off, h1, h2 k hkx⟩
        obtain ⟨b', off', rfl, cy⟩ : ∃ b off, bo = some ⟨b, off, none⟩ ∧ wr.cell? ⟨b, off + k, none⟩ = some (.int .u8 (ys.getD k 0)) := by
          rcases (ints_below HY.out HB.out) with h | ⟨b, off, h1, h2⟩
          · rw [h] at hky; simp at hky
          · exact ⟨b, off, h1, h2 k hky⟩
        have HZX := Lib.hid (inB_getD RX.out k)
        have HZY := Lib.hid (inB_getD RY.out k)
        generalize xs.getD k 0 = x at *
        generalize ys.getD k 0 = y at *
        have b0 : (0 : Int) ≤ (k : Int) := by omega
        have b1 : (k : Int) < (n : Int) := by omega
        clear hkx hky
        have hwk : wrap64 ((k : Int) + 1) = (k : Int) + 1 := by have := HL.out; unfold wrap64; omega
        have hke : ((k + 1 : Nat) : Int) = (k : Int) + 1 := by omega
        go_wp2_with fail
        go_quiet (fail)
        go_wp2_with fail
        have HN2 : Hid (Below w.heap.size w (wr.drewN nq)) := Lib.hid (below_fp HB.out ((Keeps.refl (fun _ => False) wr).drewN nq) (fun _ h => h.elim))
        have HE2 := Lib.hid (eqB_step HV.out HZX.out HZY.out HE.out)
        refine ⟨⟨k + 1, _, by omega, by rw [hwk, hke], rfl, or_in8 _ _, by rw [HE2.out, HT.out], HN2.out⟩, ?_⟩
        rw [hwk]
        simp only [intOf]
        omega
      · obtain rfl : k = n := by omega
        have HA : Hid ((v == 0) = eqB xs ys) := Lib.hid (by rw [HE.out, List.take_of_length_le (Nat.le_of_eq HN.out), List.take_of_length_le (Nat.le_of_eq HM.out)])
        go_wp2_with fail
        go_ret
        exact ⟨by rw [← HA.out]; rfl, HB.out⟩
  · have HNE : Hid (eqB xs ys = false) := Lib.hid (by
      refine decide_eq_false (fun e => ?_)
      have h1 := HN.out
      have h2 := HM.out
      rw [e] at h1
      omega)
    go_enter Try.func44, Try.ntmps44
    go_wp2_with fail
    go_ret
    exact ⟨by rw [HNE.out]; rfl, Below.refl _ _⟩

end Go.Proofs.Yteabnagdfecleaa
