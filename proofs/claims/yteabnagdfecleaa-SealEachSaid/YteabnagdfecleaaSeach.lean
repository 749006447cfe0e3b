/- SealEach is true for every input, and its arguments read behind the call as before; no condition: the walk. -/
import Derived.Test.YteabnagdfecleaaSf
import Derived.Test.YteabnagdfecleaaSlA
namespace Go.Proofs.Yteabnagdfecleaa
open Go.RowKit
set_option linter.unusedVariables false
set_option linter.unusedSimpArgs false

theorem open_long {key : List Int} {N : NR} (ho : N.ok) (hl : N.b.length ≤ 60000) (x : Int) : openF key (sealF key N ++ [x]) = (noN, 2) :=
  openF_no (by rw [split_long ho hl]; decide)
theorem open_cut {key : List Int} {N : NR} (ho : N.ok) (hl : N.b.length ≤ 60000) (k : Nat) (hk : k < (sealF key N).length) : openF key ((sealF key N).take k) = (noN, 2) :=
  openF_no (by rw [split_cut (by rw [split_seal ho hl]) k hk]; decide)
/-- Alike: field by field. -/
def sameN (N M : NR) : Bool := (N.p == M.p) && (N.l == M.l) && (N.w == M.w) && (N.s == M.s) && eqB N.b M.b
theorem sameN_seal {key : List Int} {N M : NR} (hN : N.ok) (hM : M.ok) (h1 : N.b.length ≤ 60000) (h2 : M.b.length ≤ 60000) : eqB (sealF key N) (sealF key M) = sameN N M := by
  have h := seal_inj (key := key) hN hM h1 h2
  obtain ⟨p, l, x, s, b⟩ := N
  obtain ⟨p', l', x', s', b'⟩ := M
  rw [Bool.eq_iff_iff]
  unfold eqB sameN
  rw [decide_eq_true_eq, h]
  simp [NR.mk.injEq, eqB, and_assoc]

set_option maxRecDepth 100000 in
set_option maxHeartbeats 4000000 in
theorem seach_core (W : World) (N : NR) (ao : Option Addr) (m c : Nat) (hm : N.b.length = m) (hz : IntsAt .u8 W ao N.b) (hB : InB N.b) (hc : m ≤ c) (hcm : c ≤ maxLen) (ko : Option Addr) (key : List Int) (kn kc : Nat) (hkn : key.length = kn) (hkz : IntsAt .u8 W ko key) (hkB : InB key) (hkc : kn ≤ kc) (hkm : kc ≤ maxLen)
    (M : NR) (bo : Option Addr) (m2 d : Nat) (hm2 : M.b.length = m2) (hz2 : IntsAt .u8 W bo M.b) (hB2 : InB M.b) (hc2 : m2 ≤ d) (hcm2 : d ≤ maxLen) :
    Calls Try.prog 8 #[.agg #[.int .i64 N.p, .int .i64 N.l, .int .i64 N.w, .int .i64 N.s, .slice ao m c], .slice ko kn kc, .agg #[.int .i64 M.p, .int .i64 M.l, .int .i64 M.w, .int .i64 M.s, .slice bo m2 d]] W fun e w' => e = .returned (.bool true) ∧ Below W.heap.size W w' := by
  have HKA : Hid (key.length = kn ∧ IntsAt .u8 W ko key ∧ InB key ∧ kn ≤ kc ∧ kc ≤ maxLen) := Lib.hid ⟨hkn, hkz, hkB, hkc, hkm⟩
  have HA : Hid (N.b.length = m ∧ IntsAt .u8 W ao N.b ∧ InB N.b ∧ m ≤ c ∧ c ≤ maxLen) := Lib.hid ⟨hm, hz, hB, hc, hcm⟩
  have HA2 : Hid (M.b.length = m2 ∧ IntsAt .u8 W bo M.b ∧ InB M.b ∧ m2 ≤ d ∧ d ≤ maxLen) := Lib.hid ⟨hm2, hz2, hB2, hc2, hcm2⟩
  obtain ⟨w0, hw0⟩ : ∃ w0, w0 = (W.alloc (.cells #[.int .i64 N.p, .int .i64 N.l, .int .i64 N.w, .int .i64 N.s, .slice ao m c] 46)).alloc (.cells #[.int .i64 M.p, .int .i64 M.l, .int .i64 M.w, .int .i64 M.s, .slice bo m2 d] 46) := ⟨_, rfl⟩
  have HX0 : Hid (NBox w0 W.heap.size N.p N.l N.w N.s (.slice ao m c)) := Lib.hid (by rw [hw0]; exact (Below.heap_alloc _ _ _ (by simp)).trans (heap_alloc_new W _))
  have HY0 : Hid (NBox w0 (W.heap.size + 1) M.p M.l M.w M.s (.slice bo m2 d)) := Lib.hid (by rw [hw0]; have h := heap_alloc_new (W.alloc (.cells #[.int .i64 N.p, .int .i64 N.l, .int .i64 N.w, .int .i64 N.s, .slice ao m c] 46)) (.cells #[.int .i64 M.p, .int .i64 M.l, .int .i64 M.w, .int .i64 M.s, .slice bo m2 d] 46); simpa [NBox] using h)
  have HB0 : Hid (Below W.heap.size W w0) := Lib.hid (by rw [hw0]; exact ((Below.refl _ _).alloc (Nat.le_refl _) _).alloc (by simp) _)
  have HW0 := Lib.hid hw0
  clear hkn hkz hkB hkc hkm hm hz hB hc hcm hm2 hz2 hB2 hc2 hcm2 hw0
  go_enter Try.func8, Try.ntmps8
  go_wp2_with fail
  rw [← HW0.out]
  (with_reducible refine (first14_any w0).mono ?_)
  rintro e w1 ⟨rfl, hb1⟩
  have HB1 : Hid (Below W.heap.size W w1) := Lib.hid (below_step HB0.out hb1)
  have HX1 := Lib.hid (HX0.out.below hb1)
  have HY1 := Lib.hid (HY0.out.below hb1)
  have HBX : Hid (W.heap.size + 1 < w1.heap.size) := Lib.hid HY1.out.lt
  clear hb1 HX0 HY0
  obtain ⟨x0, x1, x2, x3, x4⟩ := HX1.out.cells
  obtain ⟨y0, y1, y2, y3, y4⟩ := HY1.out.cells
  by_cases hb1 : (2000 : Int) < (m : Int)
  · go_wp2_with fail
    (with_reducible refine (first14_any w1).mono ?_)
    rintro e w2 ⟨rfl, hb2⟩
    have HB2 : Hid (Below W.heap.size W w2) := Lib.hid (below_step HB1.out hb2)
    clear hb2
    go_wp2
    go_ret
    exact ⟨rfl, HB2.out⟩
  by_cases hb2 : (2000 : Int) < (m2 : Int)
  · go_wp2_with fail
    (with_reducible refine (first14_any w1).mono ?_)
    rintro e w2 ⟨rfl, hb2'⟩
    have HB2 : Hid (Below W.heap.size W w2) := Lib.hid (below_step HB1.out hb2')
    clear hb2'
    go_wp2
    go_ret
    exact ⟨rfl, HB2.out⟩
  by_cases hb3 : (200 : Int) < (kn : Int)
  · go_wp2_with fail
    (with_reducible refine (first14_any w1).mono ?_)
    rintro e w2 ⟨rfl, hb2'⟩
    have HB2 : Hid (Below W.heap.size W w2) := Lib.hid (below_step HB1.out hb2')
    clear hb2'
    go_wp2
    go_ret
    exact ⟨rfl, HB2.out⟩
  have HML : Hid (m ≤ 2000 ∧ m2 ≤ 2000 ∧ kn ≤ 200) := Lib.hid (by omega)
  go_wp2_with fail
  (with_reducible refine (newTable_any w1).mono ?_)
  rintro e w2 ⟨rfl, ht2, hb2'⟩
  have HS2 : Hid (St W w1.heap.size w2) := Lib.hid ⟨ht2, below_step HB1.out hb2', HB1.out.size⟩
  have HX2 := Lib.hid (HX1.out.below hb2')
  have HY2 := Lib.hid (HY1.out.below hb2')
  clear ht2 hb2' x0 x1 x2 x3 x4 y0 y1 y2 y3 y4 HX1 HY1
  generalize w1.heap.size = tb at *
  obtain ⟨x0, x1, x2, x3, x4⟩ := HX2.out.cells
  have HKL := Lib.hid (fun (wx : World) (h : St W tb wx) => Lie.arg (c := kc) HKA.out.1 HKA.out.2.1 HKA.out.2.2.1 HKA.out.2.2.2.1 HKA.out.2.2.2.2 h)
  have HS1 := Lib.hid (seal_st HS2.out ko key kn kc N ao m c (HKL.out w2 HS2.out) (Lie.arg HA.out.1 HA.out.2.1 HA.out.2.2.1 HA.out.2.2.2.1 HA.out.2.2.2.2 HS2.out) (by have := HML.out; omega))
  have HP2 := Lib.hid (fun (wx : World) (h : St W tb wx) => seal_st h ko key kn kc M bo m2 d (HKL.out wx h) (Lie.arg HA2.out.1 HA2.out.2.1 HA2.out.2.2.1 HA2.out.2.2.2.1 HA2.out.2.2.2.2 h) (by have := HML.out; omega))
  have HAI := Lib.hid (sealR_inB key HA.out.2.2.1)
  have HAJ := Lib.hid (sealR_inB key HA2.out.2.2.1)
  have HN0 := Lib.hid (fun h => sealR_ok (key := key) (N := N) h)
  have HM0 := Lib.hid (fun h => sealR_ok (key := key) (N := M) h)
  generalize sealR key N = R at *
  generalize sealR key M = R2 at *
  obtain ⟨A, er⟩ := R
  obtain ⟨B, fr⟩ := R2
  dsimp only at HS1 HP2 HAI HAJ HN0 HM0
  go_wp2_with fail
  (with_reducible refine HS1.out.mono ?_)
  rintro e w3 ⟨a3, k3, rfl, hs3, hk3, ho3⟩
  have HS3 := Lib.hid hs3
  have HO3 := Lib.hid ho3
  have HX3 := Lib.hid (HX2.out.keep hk3 (by have := HBX.out; omega))
  have HY3 := Lib.hid (HY2.out.keep hk3 (by have := HBX.out; omega))
  have HPP := Lib.hid (HP2.out w3 hs3)
  clear hs3 hk3 ho3 x0 x1 x2 x3 x4 HS1 HP2 HX2 HY2
  obtain ⟨y0, y1, y2, y3, y4⟩ := HY3.out.cells
  go_wp2_with fail
  (with_reducible refine HPP.out.mono ?_)
  rintro e w4 ⟨a4, k4, rfl, hs4, hk4, ho4⟩
  have HS4 := Lib.hid hs4
  have HO4 := Lib.hid (HO3.out.step hk4)
  have HQ4 := Lib.hid ho4
  have HX4 := Lib.hid (HX3.out.keep hk4 (by have := HBX.out; omega))
  have HY4 := Lib.hid (HY3.out.keep hk4 (by have := HBX.out; omega))
  clear hs4 hk4 ho4 y0 y1 y2 y3 y4 HPP HX3 HY3 HO3
  by_cases he : er = 0
  case neg =>
    have hb : (er != (0 : Int)) = true := by simp [he]
    clear he
    go_wp2_with fail
    (with_reducible refine (first14_any w4).mono ?_)
    rintro e w5 ⟨rfl, hb5⟩
    have HS5 := Lib.hid (HS4.out.below hb5)
    clear hb5
    go_wp2
    go_ret
    exact ⟨rfl, HS5.out.bel⟩
  case pos =>
  by_cases hf : fr = 0
  case neg =>
    have hb : (fr != (0 : Int)) = true := by simp [hf]
    clear hf
    subst he
    go_wp2_with fail
    (with_reducible refine (first14_any w4).mono ?_)
    rintro e w5 ⟨rfl, hb5⟩
    have HS5 := Lib.hid (HS4.out.below hb5)
    clear hb5
    go_wp2
    go_ret
    exact ⟨rfl, HS5.out.bel⟩
  case pos =>
  subst he hf
  obtain ⟨oN, lN, eN⟩ := HN0.out rfl
  obtain ⟨oM, lM, eM⟩ := HM0.out rfl
  have eA : A = sealF key N := congrArg Prod.fst eN
  have eB : B = sealF key M := congrArg Prod.fst eM
  have HSAME : Hid (eqB A B = sameN N M) := Lib.hid (by rw [eA, eB]; exact sameN_seal oN oM lN lM)
  have HLA : Hid (A.length = 44 + m) := Lib.hid (by rw [eA, sealF_len, HA.out.1])
  have HLB : Hid (B.length = 44 + m2) := Lib.hid (by rw [eB, sealF_len, HA2.out.1])
  have HOL : Hid (openF key (A ++ [0]) = (noN, 2)) := Lib.hid (by rw [eA]; exact open_long oN lN 0)
  have HOC : Hid (∀ k, k < A.length → openF key (A.take k) = (noN, 2)) := Lib.hid (fun k hk => by rw [eA] at hk ⊢; exact open_cut oN lN k hk)
  clear oN lN eN oM lM eM eA eB HN0 HM0
  rw [HLA.out] at HO4 ⊢
  rw [HLB.out] at HQ4 ⊢
  obtain ⟨pa, hpa⟩ : ∃ pa, pa = 44 + m := ⟨_, rfl⟩
  obtain ⟨pb, hpb⟩ : ∃ pb, pb = 44 + m2 := ⟨_, rfl⟩
  have HPA : Hid (pa = 44 + m ∧ pb = 44 + m2) := Lib.hid ⟨hpa, hpb⟩
  rw [← hpa] at HO4 HLA ⊢
  rw [← hpb] at HQ4 HLB ⊢
  clear hpa hpb
  have z1 : ((pa : Int) == 0) = false := by have := HPA.out.1; simp; omega
  have z2 : ((pb : Int) == 0) = false := by have := HPA.out.2; simp; omega
  obtain ⟨x0, x1, x2, x3, x4⟩ := HX4.out.cells
  obtain ⟨y0, y1, y2, y3, y4⟩ := HY4.out.cells
  have HBE := Lib.hid (bytes_eq ao bo N.b M.b m m2 c d w4 HA.out.1 HA2.out.1 (ints_below HA.out.2.1 HS4.out.bel) (ints_below HA2.out.2.1 HS4.out.bel) HA.out.2.2.1 HA2.out.2.2.1)
  go_upto_region 12 with fail
  clear z1 z2
  go_cut [12] (fun s wx => s = .bool (sameN N M) ∧ w4 = wx)
  case first =>
    by_cases t1 : N.p = M.p
    case neg =>
      have hb : (N.p == M.p) = false := by simp [t1]
      have HV : Hid (sameN N M = false) := Lib.hid (by unfold sameN; rw [hb]; rfl)
      clear t1
      go_wp2_with fail
      go_meet
      case rel => exact ⟨by rw [HV.out], rfl⟩
    case pos =>
    have q1 : (N.p == M.p) = true := by simp [t1]
    have Q1 := Lib.hid q1
    clear t1
    by_cases t2 : N.l = M.l
    case neg =>
      have hb : (N.l == M.l) = false := by simp [t2]
      have HV : Hid (sameN N M = false) := Lib.hid (by unfold sameN; rw [hb]; simp)
      clear t2
      go_wp2_with fail
      go_meet
      case rel => exact ⟨by rw [HV.out], rfl⟩
    case pos =>
    have q2 : (N.l == M.l) = true := by simp [t2]
    have Q2 := Lib.hid q2
    clear t2
    by_cases t3 : N.w = M.w
    case neg =>
      have hb : (N.w == M.w) = false := by simp [t3]
      have HV : Hid (sameN N M = false) := Lib.hid (by unfold sameN; rw [hb]; simp)
      clear t3
      go_wp2_with fail
      go_meet
      case rel => exact ⟨by rw [HV.out], rfl⟩
    case pos =>
    have q3 : (N.w == M.w) = true := by simp [t3]
    have Q3 := Lib.hid q3
    clear t3
    by_cases t4 : N.s = M.s
    case neg =>
      have hb : (N.s == M.s) = false := by simp [t4]
      have HV : Hid (sameN N M = false) := Lib.hid (by unfold sameN; rw [hb]; simp)
      clear t4
      go_wp2_with fail
      go_meet
      case rel => exact ⟨by rw [HV.out], rfl⟩
    case pos =>
    have q4 : (N.s == M.s) = true := by simp [t4]
    have HV : Hid (sameN N M = eqB N.b M.b) := Lib.hid (by unfold sameN; rw [Q1.out, Q2.out, Q3.out, q4]; simp)
    clear t4
    go_wp2_with fail
    (with_reducible refine HBE.out.mono ?_)
    rintro e w5 ⟨rfl, rfl⟩
    go_wp2_with fail
    go_meet
    case rel => exact ⟨by rw [HV.out], rfl⟩
  case rest =>
    obtain ⟨rfl, rfl⟩ := hcut
    rename World => w4
    clear HBE x0 x1 x2 x3 x4 y0 y1 y2 y3 y4
    have HCB := Lib.hid (copyBytes a3 A pa k3 w4 HLA.out HO4.out.lie.ints (by have := HPA.out; have := HML.out; omega))
    go_wp2_with fail
    (with_reducible refine HCB.out.mono ?_)
    rintro e w5 ⟨ca, cc, rfl, hr5⟩
    rw [HLA.out] at hr5 ⊢
    have HOC5 : Hid (Own tb w5 ca A pa cc) := Lib.hid (RowAt.own hr5 HS4.out.lt HLA.out HAI.out)
    have HF5 : Hid (∀ g, (Value.slice ca pa cc).ownBlock = some g → w4.heap.size ≤ g) := Lib.hid hr5.2.2
    have HS5 := Lib.hid (HS4.out.below hr5.2.1)
    have HO5 := Lib.hid (HO4.out.below hr5.2.1)
    have HQ5 := Lib.hid (HQ4.out.below hr5.2.1)
    have HX5 := Lib.hid (HX4.out.below hr5.2.1)
    have HB5 : Hid (Below w4.heap.size w4 w5) := Lib.hid hr5.2.1
    clear hr5 HCB
    obtain ⟨i0, hi, hz0, hz1, hz2⟩ := info_parts Try_infoU8
    go_wp2_with (at_builtin; refine wpList_append_any rfl _ _ 22 rfl 5 i0 (.int .u8 0) 1 1 Try.underlying22 hi hz0 hz1 hz2 rfl (by decide) (.slice ca pa cc) pa _ rfl (HOC5.out.row.alloc _) (some ⟨w5.heap.size, 0, none⟩) 1 1 [.int .u8 0] rfl rfl ?c2 (fun ad had => by cases had; exact World.news_of_block (heap_alloc_new _ _)) (by simp [Value.oneCell']) ?c5 ?c6 ?_)
    case c2 => intro e; cases e
    case c5 => have := HPA.out; have := HML.out; unfold maxLen; omega
    case c6 => have := HPA.out; have := HML.out; omega
    intro ao6 cap6 w6 hown hgrow hat hnn
    have hown' : w6.ownsRow 0 5 1 (.slice ao6 (pa + 1) cap6) (pa + 1) ((A ++ [0]).map (Value.int .u8)) := by rw [List.map_append]; exact hown
    have HB6 : Hid (Below w4.heap.size w4 w6) := Lib.hid (below_fp HB5.out (((Keeps.refl _ w5).alloc _).grown hgrow (fun i hi => Or.inl hi)) (fun i hi => HF5.out i hi))
    have HS6 := Lib.hid (HS4.out.below HB6.out)
    have HO6 := Lib.hid (HO4.out.below HB6.out)
    have HQ6 := Lib.hid (HQ4.out.below HB6.out)
    have HX6 := Lib.hid (HX4.out.below HB6.out)
    have HG6 : Hid (Own tb w6 ao6 (A ++ [0]) (pa + 1) cap6) := Lib.hid ⟨hown', by simp [HLA.out], inB_app HAI.out (fun z hz => by simp at hz; omega), fun a ha e => by
      have hlt := HS4.out.lt
      rcases hat a.block (by rw [ha]; rfl) with h | h
      · have := HF5.out a.block h; omega
      · have := HB5.out.size; have h2 : a.block = w5.heap.size + 1 := by simpa using h
        omega⟩
    clear hown hown' hgrow hat hnn HS5 HO5 HQ5 HX5 HOC5
    have HOP := Lib.hid (open_st HS6.out ko key kn kc ao6 (A ++ [0]) (pa + 1) cap6 (HKL.out w6 HS6.out) HG6.out.lie (by have := HML.out; omega) (by have := HPA.out; have := HML.out; omega))
    rw [HOL.out] at HOP
    dsimp only at HOP
    go_wp2_with fail
    (with_reducible refine HOP.out.mono ?_)
    rintro e w7 ⟨a7, k7, rfl, hs7, hk7, ho7⟩
    obtain ⟨w8, hw8⟩ : ∃ w8, w8 = w7.alloc (.cells #[.int .i64 noN.p, .int .i64 noN.l, .int .i64 noN.w, .int .i64 noN.s, .slice a7 noN.b.length k7] 46) := ⟨_, rfl⟩
    have hb8 : Below w7.heap.size w7 w8 := by rw [hw8]; exact (Below.refl _ _).alloc (Nat.le_refl _) _
    have HS8 := Lib.hid (hs7.below hb8)
    have HO8 := Lib.hid ((HO6.out.step hk7).below hb8)
    have HQ8 := Lib.hid ((HQ6.out.step hk7).below hb8)
    have HX8 := Lib.hid ((HX6.out.keep hk7 (by have := HBX.out; omega)).below hb8)
    have HW8 := Lib.hid hw8
    clear hs7 hk7 ho7 hb8 hw8 HOP HS6 HO6 HQ6 HX6 HG6
    obtain ⟨ga, rfl⟩ := (fun (h : 0 < pa) => (show ∃ g, a3 = some ⟨g, 0, none⟩ from by
      rcases HO8.out.row.2 with ⟨_, hn⟩ | ⟨g', cap', cur, hv, _⟩
      · omega
      · simp only [Value.slice.injEq] at hv; exact ⟨g', hv.1⟩)) (by have := HPA.out; omega)
    obtain ⟨P, hP⟩ : ∃ P, P = pa - 1 := ⟨_, rfl⟩
    have HPP : Hid (P + 1 = pa) := Lib.hid (by have := HPA.out; omega)
    clear hP
    have HTK := Lib.hid (HO8.out.lie.take P (by have := HPP.out; omega))
    have HOP := Lib.hid (open_st HS8.out ko key kn kc (some ⟨ga, 0, none⟩) (A.take P) P k3 (HKL.out w8 HS8.out) HTK.out (by have := HML.out; omega) (by have := HPA.out; have := HPP.out; have := HML.out; omega))
    rw [HOC.out P (by rw [HLA.out]; have := HPP.out; omega)] at HOP
    dsimp only at HOP
    have HWP : Hid (wrap64 (P : Int) = (P : Int)) := Lib.hid (by have := HPA.out; have := HPP.out; have := HML.out; unfold wrap64; omega)
    have v1 : (pa : Int) - 1 = (P : Int) := by have := HPP.out; omega
    have v2 : (0 : Int) ≤ (P : Int) := by omega
    have v3 : (P : Int) ≤ (k3 : Int) := by have := HO8.out.lie.cap; have := HPP.out; omega
    obtain v4 := HWP.out
    go_wp2_with fail
    rw [← HW8.out]
    (with_reducible refine HOP.out.mono ?_)
    rintro e w9 ⟨a9, k9, rfl, hs9, hk9, ho9⟩
    clear v1 v2 v3 v4
    obtain ⟨w10, hw10⟩ : ∃ w10, w10 = w9.alloc (.cells #[.int .i64 noN.p, .int .i64 noN.l, .int .i64 noN.w, .int .i64 noN.s, .slice a9 noN.b.length k9] 46) := ⟨_, rfl⟩
    have hb10 : Below w9.heap.size w9 w10 := by rw [hw10]; exact (Below.refl _ _).alloc (Nat.le_refl _) _
    have HS10 := Lib.hid (hs9.below hb10)
    have HO10 := Lib.hid ((HO8.out.step hk9).below hb10)
    have HQ10 := Lib.hid ((HQ8.out.step hk9).below hb10)
    have HX10 := Lib.hid ((HX8.out.keep hk9 (by have := HBX.out; omega)).below hb10)
    have HW10 := Lib.hid hw10
    clear hs9 hk9 ho9 hb10 hw10 HOP HS8 HO8 HQ8 HX8 HW8 HTK
    go_wp2_with fail
    rw [← HW10.out]
    (with_reducible refine (first14_any w10).mono ?_)
    rintro e w11 ⟨rfl, hb11⟩
    have HS11 := Lib.hid (HS10.out.below hb11)
    have HX11 := Lib.hid (HX10.out.below hb11)
    have HBE := Lib.hid (bytes_eq (some ⟨ga, 0, none⟩) a4 A B pa pb k3 k4 w11 HLA.out HLB.out (HO10.out.below hb11).lie.ints (HQ10.out.below hb11).lie.ints HAI.out HAJ.out)
    rw [HSAME.out] at HBE
    obtain ⟨x0, x1, x2, x3, x4⟩ := HX11.out.cells
    generalize sameN N M = sm at *
    clear hb11
    have u2 : ((pa : Int) == 44 + (m : Int)) = true := by have := HPA.out.1; simp; omega
    have u1 : wrap64 (44 + (m : Int)) = 44 + (m : Int) := by have := HML.out; unfold wrap64; omega
    go_wp2_with fail
    (with_reducible refine HBE.out.mono ?_)
    rintro e w12 ⟨rfl, rfl⟩
    cases sm
    · go_wp2
      go_ret
      exact ⟨rfl, HS11.out.bel⟩
    · go_wp2
      go_ret
      exact ⟨rfl, HS11.out.bel⟩

theorem walk_sealEach (W : World) (N : NR) (ao : Option Addr) (m c : Nat) (hm : N.b.length = m) (hz : IntsAt .u8 W ao N.b) (hB : InB N.b) (hc : m ≤ c) (hcm : c ≤ maxLen) (ko : Option Addr) (key : List Int) (kc : Nat) (hkz : IntsAt .u8 W ko key) (hkc : key.length ≤ kc) (kwf : kc ≤ maxLen ∧ ∀ n ∈ key, (Lit.int .u8 n).wf = true)
    (M : NR) (bo : Option Addr) (m2 d : Nat) (hm2 : M.b.length = m2) (hz2 : IntsAt .u8 W bo M.b) (hB2 : InB M.b) (hc2 : m2 ≤ d) (hcm2 : d ≤ maxLen) :
    Calls Try.prog 8 #[.agg #[.int .i64 N.p, .int .i64 N.l, .int .i64 N.w, .int .i64 N.s, .slice ao m c], .slice ko key.length kc, .agg #[.int .i64 M.p, .int .i64 M.l, .int .i64 M.w, .int .i64 M.s, .slice bo m2 d]] W fun e w' => e = .returned (.bool true) ∧ Below W.heap.size W w' :=
  seach_core W N ao m c hm hz hB hc hcm ko key key.length kc rfl hkz (inB_of_wf kwf.2) hkc kwf.1 M bo m2 d hm2 hz2 hB2 hc2 hcm2

end Go.Proofs.Yteabnagdfecleaa
