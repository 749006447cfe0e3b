/- ReqAnswers is true for every input, and its arguments read behind the call as before; no condition. -/
import Derived.Test.YtadejcpifabpoaaRefy
import Derived.Test.YtadejcpifabpoaaReq8
import Derived.Test.YtadejcpifabpoaaRefw
import Derived.Test.YtadejcpifabpoaaArgs
import Derived.Test.YtadejcpifabpoaaTake
import Derived.Test.YtadejcpifabpoaaReqb
import Derived.ChangeMaps5
namespace Go.Proofs.Ytadejcpifabpoaa
open Go.ChangeShapes Go.WideShapes Go.ChangeAt Go.RowKit
set_option linter.unusedVariables false
set_option linter.unusedSimpArgs false

set_option maxRecDepth 100000 in
set_option maxHeartbeats 8000000 in
theorem answers_core (W : World) (P : AN) (ra : Option Addr) (n1 rc1 : Nat) (ea : Option Addr) (m1 ec1 : Nat) (Q : AN) (rb : Option Addr) (n2 rc2 : Nat) (eb : Option Addr) (m2 ec2 : Nat) (po : Option Addr) (zs : List Int) (l pc : Nat)
    (hn1 : P.rs.length = n1) (hm1 : P.es.length = m1) (hr1 : RepsAt W ra P.rs) (he1 : EvsAt W ea P.es) (hc1 : m1 ≤ ec1 ∧ ec1 ≤ maxLen)
    (hn2 : Q.rs.length = n2) (hm2 : Q.es.length = m2) (hr2 : RepsAt W rb Q.rs) (he2 : EvsAt W eb Q.es) (hc2 : m2 ≤ ec2 ∧ ec2 ≤ maxLen)
    (hl : zs.length = l) (hz : IntsAt .u8 W po zs) (hzb : InB zs) (hpc : l ≤ pc ∧ pc ≤ maxLen) :
    Calls Try.prog 11 #[.agg (#[.int .i64 P.c, .int .i64 P.q, .slice ra n1 rc1, .slice ea m1 ec1], 57).1, .agg (#[.int .i64 Q.c, .int .i64 Q.q, .slice rb n2 rc2, .slice eb m2 ec2], 57).1, .slice po l pc] W fun e w' => e = .returned (.bool true) ∧ Below W.heap.size W w' := by
  obtain ⟨w2, hw2⟩ : ∃ w2, w2 = (W.alloc (.cells #[.int .i64 P.c, .int .i64 P.q, .slice ra n1 rc1, .slice ea m1 ec1] 57)).alloc (.cells #[.int .i64 Q.c, .int .i64 Q.q, .slice rb n2 rc2, .slice eb m2 ec2] 57) := ⟨_, rfl⟩
  obtain ⟨BS, hBS⟩ : ∃ BS : List (Array Value × TypeId), BS = [(#[.int .i64 P.c, .int .i64 P.q, .slice ra n1 rc1, .slice ea m1 ec1], 57), (#[.int .i64 Q.c, .int .i64 Q.q, .slice rb n2 rc2, .slice eb m2 ec2], 57)] := ⟨_, rfl⟩
  have HB2 : Hid (Boxes W w2 BS) := Lib.hid (by
    subst hw2
    subst hBS
    exact ((Boxes.nil W).push (by simp) _ _).push (by simp) _ _)
  have HC : Hid (∀ w', Boxes W w' BS → w'.cell? ⟨W.heap.size, 0, none⟩ = some (.int .i64 P.c) ∧ w'.cell? ⟨W.heap.size, 1, none⟩ = some (.int .i64 P.q) ∧ w'.cell? ⟨W.heap.size, 2, none⟩ = some (.slice ra n1 rc1) ∧ w'.cell? ⟨W.heap.size, 3, none⟩ = some (.slice ea m1 ec1) ∧ w'.cell? ⟨W.heap.size + 1, 0, none⟩ = some (.int .i64 Q.c) ∧ w'.cell? ⟨W.heap.size + 1, 1, none⟩ = some (.int .i64 Q.q) ∧ w'.cell? ⟨W.heap.size + 1, 2, none⟩ = some (.slice rb n2 rc2) ∧ w'.cell? ⟨W.heap.size + 1, 3, none⟩ = some (.slice eb m2 ec2)) := Lib.hid (by
    intro w' h
    subst hBS
    exact ⟨h.cell 0 0 rfl, h.cell 0 1 rfl, h.cell 0 2 rfl, h.cell 0 3 rfl, h.cell 1 0 rfl, h.cell 1 1 rfl, h.cell 1 2 rfl, h.cell 1 3 rfl⟩)
  have HFX := Lib.hid (fun w' (h : Below W.heap.size W w') => fewAnswer_any P.c P.q ra n1 rc1 ea P.es m1 ec1 w' hm1 (he1.below h) hc1.1 hc1.2)
  have HFY := Lib.hid (fun w' (h : Below W.heap.size W w') => fewAnswer_any Q.c Q.q rb n2 rc2 eb Q.es m2 ec2 w' hm2 (he2.below h) hc2.1 hc2.2)
  have HEX := Lib.hid (fun (hs : fewAns n1 P.es = true) w' (h : Below W.heap.size W w') => encodeAnswer P.c P.q ra P.rs n1 rc1 ea P.es m1 ec1 w' hn1 (hr1.below h) hm1 (he1.below h) (by have := (fewAns_facts _ _ hs).2.2; omega))
  have HRX := Lib.hid (fun w' (h : Below W.heap.size W w') => rencodeAnswer P.c P.q ra P.rs n1 rc1 ea P.es m1 ec1 w' hn1 (hr1.below h) hm1 (he1.below h))
  have HDX := Lib.hid (fun (h40 : l ≤ 40000) w' (h : Below W.heap.size W w') => decodeAnswer po zs l pc w' hl (ints_below hz h) hzb hpc.1 hpc.2 (by omega))
  have HRD := Lib.hid (fun (h40 : l ≤ 40000) w' (h : Below W.heap.size W w') => rdecodeAnswer po zs l pc w' hl (ints_below hz h) hzb hpc.1 hpc.2 (by omega))
  have HS2 := Lib.hid (fun (h1 : fewAns n1 P.es = true) (h2 : fewAns n2 Q.es = true) w' (h : Below W.heap.size W w') => sameAnswer P.c P.q ra P.rs n1 rc1 ea P.es m1 ec1 Q.c Q.q rb Q.rs n2 rc2 eb Q.es m2 ec2 w' hn1 hm1 hn2 hm2 (hr1.below h) (hr2.below h) (he1.below h) (he2.below h) (by have := fewAns_facts _ _ h1; have := fewAns_facts _ _ h2; omega) (by have := fewAns_facts _ _ h1; have := fewAns_facts _ _ h2; omega))
  have HS3 := Lib.hid (fun (h1 : fewAns n1 P.es = true) (h2 : fewAns n2 Q.es = true) w' (h : Below W.heap.size W w') => rsameAnswer P.c P.q ra P.rs n1 rc1 ea P.es m1 ec1 Q.c Q.q rb Q.rs n2 rc2 eb Q.es m2 ec2 w' hn1 hm1 hn2 hm2 (hr1.below h) (hr2.below h) (he1.below h) (he2.below h) (by have := fewAns_facts _ _ h1; have := fewAns_facts _ _ h2; omega) (by have := fewAns_facts _ _ h1; have := fewAns_facts _ _ h2; omega))
  have HIX := Lib.hid (ansF_in P.c P.q P.rs P.es)
  rw [rdecA_eq] at HRD
  have HW2 := Lib.hid hw2
  clear hn1 hm1 hr1 he1 hc1 hn2 hm2 hr2 he2 hc2 hl hz hzb hpc hw2 hBS
  go_enter Try.func11, Try.ntmps11
  go_wp2_with fail
  rw [← HW2.out]
  refine (first11_any w2).mono ?_
  rintro e w3 ⟨rfl, hb3⟩
  have HB3 := Lib.hid (HB2.out.below hb3)
  obtain ⟨a0, a1, a2, a3, a4, a5, a6, a7⟩ := HC.out w3 HB3.out
  clear hb3
  go_wp2_with fail
  refine (HFX.out w3 HB3.out.base).mono ?_
  rintro e w4 ⟨rfl, hb4⟩
  have HB4 := Lib.hid (HB3.out.below hb4)
  clear hb4 a0 a1 a2 a3 a4 a5 a6 a7
  obtain ⟨a0, a1, a2, a3, a4, a5, a6, a7⟩ := HC.out w4 HB4.out
  by_cases hf : fewAns n1 P.es = true
  case neg =>
    have hf' : fewAns n1 P.es = false := by simpa using hf
    rw [hf']
    clear hf hf'
    go_wp2_with fail
    refine (first11_any w4).mono ?_
    rintro e w5 ⟨rfl, hb⟩
    go_wp2
    go_ret
    exact ⟨rfl, (HB4.out.below hb).base⟩
  have HF := Lib.hid hf
  rw [hf]
  clear hf
  go_wp2_with fail
  refine (HFY.out w4 HB4.out.base).mono ?_
  rintro e w5 ⟨rfl, hb5⟩
  have HB5 := Lib.hid (HB4.out.below hb5)
  clear hb5 a0 a1 a2 a3 a4 a5 a6 a7
  obtain ⟨a0, a1, a2, a3, a4, a5, a6, a7⟩ := HC.out w5 HB5.out
  by_cases hg : fewAns n2 Q.es = true
  case neg =>
    have hg' : fewAns n2 Q.es = false := by simpa using hg
    rw [hg']
    clear hg hg'
    go_wp2_with fail
    refine (first11_any w5).mono ?_
    rintro e w6 ⟨rfl, hb⟩
    go_wp2
    go_ret
    exact ⟨rfl, (HB5.out.below hb).base⟩
  have HG := Lib.hid hg
  rw [hg]
  clear hg
  by_cases h40 : (40000 : Int) < (l : Int)
  case pos =>
    go_wp2_with fail
    refine (first11_any w5).mono ?_
    rintro e w6 ⟨rfl, hb⟩
    go_wp2
    go_ret
    exact ⟨rfl, (HB5.out.below hb).base⟩
  have H40 := Lib.hid (show l ≤ 40000 by omega)
  go_wp2_with fail
  refine (HEX.out HF.out w5 HB5.out.base).mono ?_
  rintro e w6 ⟨eo, ecap, rfl, hi6, hb6, _, _⟩
  have HB6 := Lib.hid (HB5.out.below hb6)
  have HI6 := Lib.hid hi6
  clear hb6 hi6 a0 a1 a2 a3 a4 a5 a6 a7
  obtain ⟨a0, a1, a2, a3, a4, a5, a6, a7⟩ := HC.out w6 HB6.out
  go_wp2_with fail
  refine (HRX.out w6 HB6.out.base).mono ?_
  rintro e w7 ⟨fo, fcap, rfl, hi7, hb7⟩
  have HB7 := Lib.hid (HB6.out.below hb7)
  have HI7 := Lib.hid (ints_below HI6.out hb7)
  have HJ7 := Lib.hid hi7
  generalize ansF P.c P.q P.rs P.es = E at *
  obtain ⟨pk, er⟩ := E
  clear hb7 hi7 a0 a1 a2 a3 a4 a5 a6 a7 HI6
  go_wp2_with fail
  refine (HDX.out H40.out w7 HB7.out.base).mono ?_
  rintro e w8 ⟨yo1, k1, yc1, yo2, k2, yc2, rfl, hk1, hy1, hk2, hy2, _, _, h255, hk2c, hcm, hsum, hb8⟩
  have HB8 := Lib.hid (HB7.out.below hb8)
  have HI8 := Lib.hid (ints_below HI7.out hb8)
  have HJ8 := Lib.hid (ints_below HJ7.out hb8)
  have HY1 := Lib.hid hy1
  have HY2 := Lib.hid hy2
  have HK1 := Lib.hid hk1
  have HK2 := Lib.hid hk2
  generalize decA zs = DD at *
  obtain ⟨D, de⟩ := DD
  simp only at HY1 HY2 HK1 HK2 hy1 hy2 hk1 hk2
  clear hb8 hy1 hy2 hk1 hk2 h255 hk2c hcm hsum HI7 HJ7
  obtain ⟨wa, hwa⟩ : ∃ wa, wa = w8.alloc (.cells #[.int .i64 D.c, .int .i64 D.q, .slice yo1 k1 yc1, .slice yo2 k2 yc2] 57) := ⟨_, rfl⟩
  have HBA : Hid (Below w8.heap.size w8 wa) := Lib.hid (by rw [hwa]; exact (Below.refl _ _).alloc (Nat.le_refl _) _)
  have HXA : Hid (wa.heap[w8.heap.size]? = some (.cells #[.int .i64 D.c, .int .i64 D.q, .slice yo1 k1 yc1, .slice yo2 k2 yc2] 57 (0, 0))) := Lib.hid (by rw [hwa]; exact heap_alloc_new w8 _)
  have HWA := Lib.hid hwa
  clear hwa
  go_wp2_with fail
  rw [← HWA.out]
  refine (HRD.out H40.out wa (HB8.out.below HBA.out).base).mono ?_
  rintro e w9 ⟨zo1, k3, zc1, zo2, k4, zc2, rfl, hk3, hy3, hk4, hy4, h256, h257, hb9⟩
  obtain ⟨wq, hwq⟩ : ∃ wq, wq = w9.alloc (.cells #[.int .i64 D.c, .int .i64 D.q, .slice zo1 k3 zc1, .slice zo2 k4 zc2] 57) := ⟨_, rfl⟩
  have HBQ : Hid (Below w9.heap.size w9 wq) := Lib.hid (by rw [hwq]; exact (Below.refl _ _).alloc (Nat.le_refl _) _)
  have HXV : Hid (wq.heap[w9.heap.size]? = some (.cells #[.int .i64 D.c, .int .i64 D.q, .slice zo1 k3 zc1, .slice zo2 k4 zc2] 57 (0, 0))) := Lib.hid (by rw [hwq]; exact heap_alloc_new w9 _)
  have HWQ := Lib.hid hwq
  have H8Q : Hid (Below w8.heap.size w8 wq) := Lib.hid (by
    have h1 := HBA.out.trans (hb9.mono HBA.out.size)
    exact h1.trans (HBQ.out.mono h1.size))
  have HXU : Hid (wq.heap[w8.heap.size]? = some (.cells #[.int .i64 D.c, .int .i64 D.q, .slice yo1 k1 yc1, .slice yo2 k2 yc2] 57 (0, 0))) := Lib.hid (by
    have h1 := (hb9.block _ (blk_lt HXA.out)).trans HXA.out
    exact (HBQ.out.block _ (blk_lt h1)).trans h1)
  have HBXQ : Hid (Boxes W wq BS) := Lib.hid (HB8.out.below H8Q.out)
  have HBY : Hid (∀ w', Below wq.heap.size wq w' → Calls Try.prog 35 #[.slice eo pk.length ecap, .slice fo pk.length fcap] w' fun e w'' => e = .returned (.bool true) ∧ w' = w'') := Lib.hid (fun w' h => by
    have hq := H8Q.out.trans (h.mono H8Q.out.size)
    have := bytes_eq eo fo pk pk pk.length pk.length ecap fcap w' rfl rfl (ints_below HI8.out hq) (ints_below HJ8.out hq) HIX.out HIX.out
    rwa [eqB_self] at this)
  have HS1 : Hid (∀ w', Below wq.heap.size wq w' → Calls Try.prog 46 #[.agg #[.int .i64 D.c, .int .i64 D.q, .slice yo1 k1 yc1, .slice yo2 k2 yc2], .agg #[.int .i64 D.c, .int .i64 D.q, .slice zo1 k3 zc1, .slice zo2 k4 zc2]] w' fun e w'' => e = .returned (.bool true) ∧ Below w'.heap.size w' w'') := Lib.hid (fun w' h => by
    have hq := H8Q.out.trans (h.mono H8Q.out.size)
    have h9 := HBQ.out.trans (h.mono HBQ.out.size)
    have := rsameAnswer D.c D.q yo1 D.rs k1 yc1 yo2 D.es k2 yc2 D.c D.q zo1 D.rs k3 zc1 zo2 D.es k4 zc2 w' HK1.out HK2.out hk3 hk4 (HY1.out.below hq) (hy3.below h9) (HY2.out.below hq) (hy4.below h9) (by have e1 := HK1.out; simp only at hk3; omega) (by have e1 := HK2.out; simp only at hk4; omega)
    rwa [(sameA_iff D.c D.q D.rs D.es D.c D.q D.rs D.es).2 ⟨rfl, rfl, rfl, rfl⟩] at this)
  have HS2' := Lib.hid (fun w' (h : Below wq.heap.size wq w') => HS2.out HF.out HG.out w' (HBXQ.out.below h).base)
  have HS3' := Lib.hid (fun w' (h : Below wq.heap.size wq w') => HS3.out HF.out HG.out w' (HBXQ.out.below h).base)
  have HSK : Hid (∀ w', Below wq.heap.size wq w' → Below wq.heap.size wq w' ∧ w'.cell? ⟨w8.heap.size, 0, none⟩ = some (.int .i64 D.c) ∧ w'.cell? ⟨w8.heap.size, 1, none⟩ = some (.int .i64 D.q) ∧ w'.cell? ⟨w8.heap.size, 2, none⟩ = some (.slice yo1 k1 yc1) ∧ w'.cell? ⟨w8.heap.size, 3, none⟩ = some (.slice yo2 k2 yc2) ∧ w'.cell? ⟨w9.heap.size, 0, none⟩ = some (.int .i64 D.c) ∧ w'.cell? ⟨w9.heap.size, 1, none⟩ = some (.int .i64 D.q) ∧ w'.cell? ⟨w9.heap.size, 2, none⟩ = some (.slice zo1 k3 zc1) ∧ w'.cell? ⟨w9.heap.size, 3, none⟩ = some (.slice zo2 k4 zc2) ∧ w'.cell? ⟨W.heap.size, 0, none⟩ = some (.int .i64 P.c) ∧ w'.cell? ⟨W.heap.size, 1, none⟩ = some (.int .i64 P.q) ∧ w'.cell? ⟨W.heap.size, 2, none⟩ = some (.slice ra n1 rc1) ∧ w'.cell? ⟨W.heap.size, 3, none⟩ = some (.slice ea m1 ec1) ∧ w'.cell? ⟨W.heap.size + 1, 0, none⟩ = some (.int .i64 Q.c) ∧ w'.cell? ⟨W.heap.size + 1, 1, none⟩ = some (.int .i64 Q.q) ∧ w'.cell? ⟨W.heap.size + 1, 2, none⟩ = some (.slice rb n2 rc2) ∧ w'.cell? ⟨W.heap.size + 1, 3, none⟩ = some (.slice eb m2 ec2)) := Lib.hid (fun w' h => by
    have u1 := (h.block _ (blk_lt HXU.out)).trans HXU.out
    have u2 := (h.block _ (blk_lt HXV.out)).trans HXV.out
    obtain ⟨b0, b1, b2, b3, b4, b5, b6, b7⟩ := HC.out w' (HBXQ.out.below h)
    exact ⟨h, blk_cell u1 0, blk_cell u1 1, blk_cell u1 2, blk_cell u1 3, blk_cell u2 0, blk_cell u2 1, blk_cell u2 2, blk_cell u2 3, b0, b1, b2, b3, b4, b5, b6, b7⟩)
  have HDR : Hid (Below wq.heap.size wq wq.drew) := Lib.hid (below_drew wq)
  clear hwq hk3 hk4 hy3 hy4 h256 h257 hb9 HBA HXA HWA HXV HBQ HXU H8Q HI8 HJ8 HY1 HY2 HK1 HK2 HB8 HS2 HS3 HFX HFY HEX HRX HDX HRD
  generalize sameA P.c P.q P.rs P.es Q.c Q.q Q.rs Q.es = SB at *
  go_upto_region 9 with fail
  rw [← HWQ.out]
  clear HWQ
  generalize w8.heap.size = U at *
  generalize w9.heap.size = V at *
  refine wp_region_held_drew (S := fun w' => Below wq.heap.size wq w' ∧ w'.cell? ⟨U, 0, none⟩ = some (.int .i64 D.c) ∧ w'.cell? ⟨U, 1, none⟩ = some (.int .i64 D.q) ∧ w'.cell? ⟨U, 2, none⟩ = some (.slice yo1 k1 yc1) ∧ w'.cell? ⟨U, 3, none⟩ = some (.slice yo2 k2 yc2) ∧ w'.cell? ⟨V, 0, none⟩ = some (.int .i64 D.c) ∧ w'.cell? ⟨V, 1, none⟩ = some (.int .i64 D.q) ∧ w'.cell? ⟨V, 2, none⟩ = some (.slice zo1 k3 zc1) ∧ w'.cell? ⟨V, 3, none⟩ = some (.slice zo2 k4 zc2) ∧ w'.cell? ⟨W.heap.size, 0, none⟩ = some (.int .i64 P.c) ∧ w'.cell? ⟨W.heap.size, 1, none⟩ = some (.int .i64 P.q) ∧ w'.cell? ⟨W.heap.size, 2, none⟩ = some (.slice ra n1 rc1) ∧ w'.cell? ⟨W.heap.size, 3, none⟩ = some (.slice ea m1 ec1) ∧ w'.cell? ⟨W.heap.size + 1, 0, none⟩ = some (.int .i64 Q.c) ∧ w'.cell? ⟨W.heap.size + 1, 1, none⟩ = some (.int .i64 Q.q) ∧ w'.cell? ⟨W.heap.size + 1, 2, none⟩ = some (.slice rb n2 rc2) ∧ w'.cell? ⟨W.heap.size + 1, 3, none⟩ = some (.slice eb m2 ec2)) (by kernel_rfl) ?_ (fun hHeld => ?_)
  · exact HSK.out _ HDR.out
  refine wpAnyH_ready (rs := [0]) (by kernel_rfl) (by simp) ?_
  refine AllReadyH.cons rfl (fun K hK => ?_) AllReadyH.nil
  go_simp
  go_at_call 22
  refine (first11_any _).mono ?_
  rintro e w10 ⟨rfl, hb10⟩
  have HB10 := Lib.hid (HDR.out.trans (hb10.mono HDR.out.size))
  clear hb10
  go_wp2_with fail
  refine hK.out _ _ ?_ (fun hHeld => ?_)
  · exact HSK.out _ HB10.out
  clear hK K
  try simp only [Act.put, List.getElem_toArray, List.getElem_cons_succ, List.getElem_cons_zero]
  try simp only [List.setIfInBounds_toArray, List.set_cons_zero, List.set_cons_succ]
  refine take_at (i := 1) (d := 52) (v := ?_) rfl rfl (by kernel_rfl) (by kernel_rfl) (by kernel_rfl) (fun _ _ _ h => h) (Or.inl ⟨by rfl, by intro w' hSw; (try dsimp only at hSw); go_simp; try with_reducible rfl⟩) (by assumption) ?_
  simp only [List.setIfInBounds_toArray, List.set_cons_zero, List.set_cons_succ]
  refine take_at (i := 2) (d := 53) (v := ?_) rfl rfl (by kernel_rfl) (by kernel_rfl) (by kernel_rfl) (fun _ _ _ h => h) (Or.inl ⟨by rfl, by intro w' hSw; (try dsimp only at hSw); go_simp; try with_reducible rfl⟩) (by assumption) ?_
  simp only [List.setIfInBounds_toArray, List.set_cons_zero, List.set_cons_succ]
  refine take_at (i := 3) (d := 54) (v := ?_) rfl rfl (by kernel_rfl) (by kernel_rfl) (by kernel_rfl) (fun _ _ _ h => h) (Or.inl ⟨by rfl, by intro w' hSw; (try dsimp only at hSw); go_simp; try with_reducible rfl⟩) (by assumption) ?_
  simp only [List.setIfInBounds_toArray, List.set_cons_zero, List.set_cons_succ]
  refine wpAnyH_ready (rs := [4]) (by kernel_rfl) (by simp) ?_
  refine AllReadyH.cons rfl (fun K hK => ?_) AllReadyH.nil
  go_simp
  go_at_call 35
  refine (HBY.out w10 HB10.out).mono ?_
  rintro e w11 ⟨rfl, rfl⟩
  go_wp2_with fail
  refine hK.out _ _ ?_ (fun hHeld => ?_)
  · exact HSK.out _ HB10.out
  clear hK K
  try simp only [Act.put, List.getElem_toArray, List.getElem_cons_succ, List.getElem_cons_zero]
  try simp only [List.setIfInBounds_toArray, List.set_cons_zero, List.set_cons_succ]
  refine take_at (i := 5) (d := 56) (v := ?_) rfl rfl (by kernel_rfl) (by kernel_rfl) (by kernel_rfl) (fun _ _ _ h => h) (Or.inl ⟨by rfl, by intro w' hSw; (try dsimp only at hSw); go_simp; try with_reducible rfl⟩) (by assumption) ?_
  simp only [List.setIfInBounds_toArray, List.set_cons_zero, List.set_cons_succ]
  refine take_at (i := 6) (d := 57) (v := ?_) rfl rfl (by kernel_rfl) (by kernel_rfl) (by kernel_rfl) (fun _ _ _ h => h) (Or.inl ⟨by rfl, by intro w' hSw; (try dsimp only at hSw); go_simp; try with_reducible rfl⟩) (by assumption) ?_
  simp only [List.setIfInBounds_toArray, List.set_cons_zero, List.set_cons_succ]
  refine take_at (i := 7) (d := 58) (v := ?_) rfl rfl (by kernel_rfl) (by kernel_rfl) (by kernel_rfl) (fun _ _ _ h => h) (Or.inl ⟨by rfl, by intro w' hSw; (try dsimp only at hSw); go_simp; try with_reducible rfl⟩) (by assumption) ?_
  simp only [List.setIfInBounds_toArray, List.set_cons_zero, List.set_cons_succ]
  refine take_at (i := 8) (d := 59) (v := ?_) rfl rfl (by kernel_rfl) (by kernel_rfl) (by kernel_rfl) (fun _ _ _ h => h) (Or.inl ⟨by rfl, by intro w' hSw; (try dsimp only at hSw); go_simp; try with_reducible rfl⟩) (by assumption) ?_
  simp only [List.setIfInBounds_toArray, List.set_cons_zero, List.set_cons_succ]
  refine take_at (i := 9) (d := 60) (v := ?_) rfl rfl (by kernel_rfl) (by kernel_rfl) (by kernel_rfl) (fun _ _ _ h => h) (Or.inl ⟨by rfl, by intro w' hSw; (try dsimp only at hSw); go_simp; try with_reducible rfl⟩) (by assumption) ?_
  simp only [List.setIfInBounds_toArray, List.set_cons_zero, List.set_cons_succ]
  refine take_at (i := 10) (d := 61) (v := ?_) rfl rfl (by kernel_rfl) (by kernel_rfl) (by kernel_rfl) (fun _ _ _ h => h) (Or.inl ⟨by rfl, by intro w' hSw; (try dsimp only at hSw); go_simp; try with_reducible rfl⟩) (by assumption) ?_
  simp only [List.setIfInBounds_toArray, List.set_cons_zero, List.set_cons_succ]
  refine take_at (i := 11) (d := 62) (v := ?_) rfl rfl (by kernel_rfl) (by kernel_rfl) (by kernel_rfl) (fun _ _ _ h => h) (Or.inl ⟨by rfl, by intro w' hSw; (try dsimp only at hSw); go_simp; try with_reducible rfl⟩) (by assumption) ?_
  simp only [List.setIfInBounds_toArray, List.set_cons_zero, List.set_cons_succ]
  refine take_at (i := 12) (d := 63) (v := ?_) rfl rfl (by kernel_rfl) (by kernel_rfl) (by kernel_rfl) (fun _ _ _ h => h) (Or.inl ⟨by rfl, by intro w' hSw; (try dsimp only at hSw); go_simp; try with_reducible rfl⟩) (by assumption) ?_
  simp only [List.setIfInBounds_toArray, List.set_cons_zero, List.set_cons_succ]
  refine take_at (i := 13) (d := 64) (v := ?_) rfl rfl (by kernel_rfl) (by kernel_rfl) (by kernel_rfl) (fun _ _ _ h => h) (Or.inl ⟨by rfl, by intro w' hSw; (try dsimp only at hSw); go_simp; try with_reducible rfl⟩) (by assumption) ?_
  simp only [List.setIfInBounds_toArray, List.set_cons_zero, List.set_cons_succ]
  refine wpAnyH_ready (rs := [14]) (by kernel_rfl) (by simp) ?_
  refine AllReadyH.cons rfl (fun K hK => ?_) AllReadyH.nil
  go_simp
  go_at_call 46
  refine (HS1.out w10 HB10.out).mono ?_
  rintro e w12 ⟨rfl, hb12⟩
  have HB12 := Lib.hid (HB10.out.trans (hb12.mono HB10.out.size))
  clear hb12
  go_wp2_with fail
  refine hK.out _ _ ?_ (fun hHeld => ?_)
  · exact HSK.out _ HB12.out
  clear hK K
  try simp only [Act.put, List.getElem_toArray, List.getElem_cons_succ, List.getElem_cons_zero]
  try simp only [List.setIfInBounds_toArray, List.set_cons_zero, List.set_cons_succ]
  refine take_at (i := 15) (d := 66) (v := ?_) rfl rfl (by kernel_rfl) (by kernel_rfl) (by kernel_rfl) (fun _ _ _ h => h) (Or.inl ⟨by rfl, by intro w' hSw; (try dsimp only at hSw); go_simp; try with_reducible rfl⟩) (by assumption) ?_
  simp only [List.setIfInBounds_toArray, List.set_cons_zero, List.set_cons_succ]
  refine take_at (i := 16) (d := 67) (v := ?_) rfl rfl (by kernel_rfl) (by kernel_rfl) (by kernel_rfl) (fun _ _ _ h => h) (Or.inl ⟨by rfl, by intro w' hSw; (try dsimp only at hSw); go_simp; try with_reducible rfl⟩) (by assumption) ?_
  simp only [List.setIfInBounds_toArray, List.set_cons_zero, List.set_cons_succ]
  refine take_at (i := 17) (d := 68) (v := ?_) rfl rfl (by kernel_rfl) (by kernel_rfl) (by kernel_rfl) (fun _ _ _ h => h) (Or.inl ⟨by rfl, by intro w' hSw; (try dsimp only at hSw); go_simp; try with_reducible rfl⟩) (by assumption) ?_
  simp only [List.setIfInBounds_toArray, List.set_cons_zero, List.set_cons_succ]
  refine take_at (i := 18) (d := 69) (v := ?_) rfl rfl (by kernel_rfl) (by kernel_rfl) (by kernel_rfl) (fun _ _ _ h => h) (Or.inl ⟨by rfl, by intro w' hSw; (try dsimp only at hSw); go_simp; try with_reducible rfl⟩) (by assumption) ?_
  simp only [List.setIfInBounds_toArray, List.set_cons_zero, List.set_cons_succ]
  refine take_at (i := 19) (d := 70) (v := ?_) rfl rfl (by kernel_rfl) (by kernel_rfl) (by kernel_rfl) (fun _ _ _ h => h) (Or.inl ⟨by rfl, by intro w' hSw; (try dsimp only at hSw); go_simp; try with_reducible rfl⟩) (by assumption) ?_
  simp only [List.setIfInBounds_toArray, List.set_cons_zero, List.set_cons_succ]
  refine take_at (i := 20) (d := 71) (v := ?_) rfl rfl (by kernel_rfl) (by kernel_rfl) (by kernel_rfl) (fun _ _ _ h => h) (Or.inl ⟨by rfl, by intro w' hSw; (try dsimp only at hSw); go_simp; try with_reducible rfl⟩) (by assumption) ?_
  simp only [List.setIfInBounds_toArray, List.set_cons_zero, List.set_cons_succ]
  refine take_at (i := 21) (d := 72) (v := ?_) rfl rfl (by kernel_rfl) (by kernel_rfl) (by kernel_rfl) (fun _ _ _ h => h) (Or.inl ⟨by rfl, by intro w' hSw; (try dsimp only at hSw); go_simp; try with_reducible rfl⟩) (by assumption) ?_
  simp only [List.setIfInBounds_toArray, List.set_cons_zero, List.set_cons_succ]
  refine take_at (i := 22) (d := 73) (v := ?_) rfl rfl (by kernel_rfl) (by kernel_rfl) (by kernel_rfl) (fun _ _ _ h => h) (Or.inl ⟨by rfl, by intro w' hSw; (try dsimp only at hSw); go_simp; try with_reducible rfl⟩) (by assumption) ?_
  simp only [List.setIfInBounds_toArray, List.set_cons_zero, List.set_cons_succ]
  refine take_at (i := 23) (d := 74) (v := ?_) rfl rfl (by kernel_rfl) (by kernel_rfl) (by kernel_rfl) (fun _ _ _ h => h) (Or.inl ⟨by rfl, by intro w' hSw; (try dsimp only at hSw); go_simp; try with_reducible rfl⟩) (by assumption) ?_
  simp only [List.setIfInBounds_toArray, List.set_cons_zero, List.set_cons_succ]
  refine take_at (i := 25) (d := 76) (v := ?_) rfl rfl (by kernel_rfl) (by kernel_rfl) (by kernel_rfl) (fun _ _ _ h => h) (Or.inl ⟨by rfl, by intro w' hSw; (try dsimp only at hSw); go_simp; try with_reducible rfl⟩) (by assumption) ?_
  simp only [List.setIfInBounds_toArray, List.set_cons_zero, List.set_cons_succ]
  refine take_at (i := 26) (d := 77) (v := ?_) rfl rfl (by kernel_rfl) (by kernel_rfl) (by kernel_rfl) (fun _ _ _ h => h) (Or.inl ⟨by rfl, by intro w' hSw; (try dsimp only at hSw); go_simp; try with_reducible rfl⟩) (by assumption) ?_
  simp only [List.setIfInBounds_toArray, List.set_cons_zero, List.set_cons_succ]
  refine wpAnyH_ready (rs := [24]) (by kernel_rfl) (by simp) ?_
  refine AllReadyH.cons rfl (fun K hK => ?_) AllReadyH.nil
  go_simp
  go_at_call 37
  refine (HS2'.out w12 HB12.out).mono ?_
  rintro e w13 ⟨rfl, hb13⟩
  have HB13 := Lib.hid (HB12.out.trans (hb13.mono HB12.out.size))
  clear hb13
  go_wp2_with fail
  refine hK.out _ _ ?_ (fun hHeld => ?_)
  · exact HSK.out _ HB13.out
  clear hK K
  try simp only [Act.put, List.getElem_toArray, List.getElem_cons_succ, List.getElem_cons_zero]
  try simp only [List.setIfInBounds_toArray, List.set_cons_zero, List.set_cons_succ]
  refine wpAnyH_ready (rs := [27]) (by kernel_rfl) (by simp) ?_
  refine AllReadyH.cons rfl (fun K hK => ?_) AllReadyH.nil
  go_simp
  go_at_call 46
  refine (HS3'.out w13 HB13.out).mono ?_
  rintro e w14 ⟨rfl, hb14⟩
  have HB14 := Lib.hid (HB13.out.trans (hb14.mono HB13.out.size))
  clear hb14
  go_wp2_with fail
  refine hK.out _ _ ?_ (fun hHeld => ?_)
  · exact HSK.out _ HB14.out
  clear hK K
  try simp only [Act.put, List.getElem_toArray, List.getElem_cons_succ, List.getElem_cons_zero]
  try simp only [List.setIfInBounds_toArray, List.set_cons_zero, List.set_cons_succ]
  refine take_at (i := 28) (d := 79) (v := ?_) rfl rfl (by kernel_rfl) (by kernel_rfl) (by kernel_rfl) (fun _ _ _ h => h) (Or.inl ⟨by rfl, by intro w' hSw; (try dsimp only at hSw); go_simp; try with_reducible rfl⟩) (by assumption) ?_
  simp only [List.setIfInBounds_toArray, List.set_cons_zero, List.set_cons_succ]
  refine take_at (i := 29) (d := 80) (v := ?_) rfl rfl (by kernel_rfl) (by kernel_rfl) (by kernel_rfl) (fun _ _ _ h => h) (Or.inl ⟨by rfl, by intro w' hSw; (try dsimp only at hSw); go_simp; try with_reducible rfl⟩) (by assumption) ?_
  simp only [List.setIfInBounds_toArray, List.set_cons_zero, List.set_cons_succ]
  refine take_at (i := 30) (d := 6) (v := ?_) rfl rfl (by kernel_rfl) (by kernel_rfl) (by kernel_rfl) (fun _ _ _ h => h) (Or.inl ⟨by rfl, by intro w' hSw; (try dsimp only at hSw); go_simp; try with_reducible rfl⟩) (by assumption) ?_
  simp only [List.setIfInBounds_toArray, List.set_cons_zero, List.set_cons_succ]
  refine wpAnyH_done (by kernel_rfl) ?_ _
  go_wp2
  go_ret
  exact ⟨rfl, (HBXQ.out.below HB14.out).base⟩

theorem walk_reqAnswers (W : World) (P : AN) (ra : Option Addr) (n1 rc1 : Nat) (ea : Option Addr) (m1 ec1 : Nat) (hn1 : P.rs.length = n1) (hm1 : P.es.length = m1) (hr1 : RepsAt W ra P.rs) (he1 : EvsAt W ea P.es) (hc1 : m1 ≤ ec1 ∧ ec1 ≤ maxLen)
    (Q : AN) (rb : Option Addr) (n2 rc2 : Nat) (eb : Option Addr) (m2 ec2 : Nat) (hn2 : Q.rs.length = n2) (hm2 : Q.es.length = m2) (hr2 : RepsAt W rb Q.rs) (he2 : EvsAt W eb Q.es) (hc2 : m2 ≤ ec2 ∧ ec2 ≤ maxLen)
    (po : Option Addr) (zs : List Int) (pc : Nat) (hz : IntsAt .u8 W po zs) (hpc : zs.length ≤ pc) (wf : pc ≤ maxLen ∧ ∀ z ∈ zs, (Lit.int .u8 z).wf = true) :
    Calls Try.prog 11 #[.agg #[.int .i64 P.c, .int .i64 P.q, .slice ra n1 rc1, .slice ea m1 ec1], .agg #[.int .i64 Q.c, .int .i64 Q.q, .slice rb n2 rc2, .slice eb m2 ec2], .slice po zs.length pc] W fun e w' => e = .returned (.bool true) ∧ Below W.heap.size W w' :=
  answers_core W P ra n1 rc1 ea m1 ec1 Q rb n2 rc2 eb m2 ec2 po zs zs.length pc hn1 hm1 hr1 he1 hc1 hn2 hm2 hr2 he2 hc2 rfl hz (inB_of_wf wf.2) ⟨hpc, wf.1⟩

/-! ### The row's step for ReqAnswers: the frame. -/
theorem reqAnswers_own : ownKnob Try.prog.godebug = none := by kernel_rfl
theorem reqAnswers_laidOut : laidOutB Try.prog = true := by kernel_rfl
set_option maxRecDepth 100000 in
theorem reqAnswers_lifted (os : Os) (started : os.Started) (H : Type) (enc : TypeId × Value → H) :
    ReturnsInHanded {} Try.checked os 11 .any (Rows.reqAnswersSpec.pre6 enc Try.prog Try.f11 Rows.reqAnswersRow.domain false) (Rows.reqAnswersSpec.post enc Try.prog Try.f11 false true false false) := by
  refine returnsInHanded_of_change (C := Try.checked) reqAnswers_own started (by kernel_rfl) Try.func11
    (ChangeSpec.witness6 (enc := enc) (C := Try.checked) false ⟨#[], #[.agg #[.int .i64 0, .int .i64 0, .slice none 0 0, .slice none 0 0], .agg #[.int .i64 0, .int .i64 0, .slice none 0 0, .slice none 0 0], .slice none 0 0], []⟩ 8 (by kernel_rfl) (by kernel_rfl) (by kernel_rfl) (by kernel_rfl)) ?_
  intro W base args ds gs before hval0 hW hcnd _
  have hval : ∀ (j : Nat) t v, Try.f11.params[j]? = some t → args[j]? = some v → Value.okWide Try.prog W .any base t v := hval0
  have hW' := hW
  obtain ⟨p, q, hA0, hV, rfl, hfz, hnd⟩ := hW
  have hA : DataW.TrodAll enc Try.prog W 0 (fun _ => true) true Try.f11.params.toList args.toList ds p := hA0
  rw [Try.params11] at hA hval
  obtain ⟨v0, vs0, d0, ds0, p0, q0, hargs, rfl, rfl, h0, r0⟩ := trodAll_cons hA
  obtain ⟨v1, vs1, d1, ds1, p1, q1, rfl, rfl, rfl, h1, r1⟩ := trodAll_cons r0
  obtain ⟨v2, vs2, d2, ds2, p2, q2, rfl, rfl, rfl, h2, r2⟩ := trodAll_cons r1
  obtain ⟨rfl, rfl, rfl⟩ := trodAll_nil r2
  obtain rfl : args = #[v0, v1, v2] := by cases args; simp_all
  obtain ⟨rfl, rfl⟩ := trodVars_none hV
  have k0 := h0
  have lt0 : ∀ x ∈ p0, x.block < W.heap.size := by obtain ⟨m, hm⟩ := k0; exact DataW.trod_lt m _ _ _ hm
  obtain ⟨A0, ra0, n0, rc0, ea0, m0, ec0, rfl, ga0, gb0, gc0, gd0, ge0, gf0⟩ := ans_of (hval 0 57 v0 rfl rfl) h0
  have k1 := h1
  have lt1 : ∀ x ∈ p1, x.block < W.heap.size := by obtain ⟨m, hm⟩ := k1; exact DataW.trod_lt m _ _ _ hm
  obtain ⟨A1, ra1, n1, rc1, ea1, m1, ec1, rfl, ga1, gb1, gc1, gd1, ge1, gf1⟩ := ans_of (hval 1 57 v1 rfl rfl) h1
  have k2 := h2
  have lt2 : ∀ x ∈ p2, x.block < W.heap.size := by obtain ⟨m, hm⟩ := k2; exact DataW.trod_lt m _ _ _ hm
  obtain ⟨ao2, len2, cap2, rfl⟩ := okWide_slice Try.underlying41 (hval 2 41 v2 rfl rfl)
  obtain ⟨z2, rfl, w2, hc2, wf2⟩ := ints_of Try.underlying41 Try.underlying5 (by kernel_rfl) h2
  clear hA0 hval0
  refine (walk_reqAnswers W A0 ra0 n0 rc0 ea0 m0 ec0 ga0 gb0 gc0 gd0 ge0 A1 ra1 n1 rc1 ea1 m1 ec1 ga1 gb1 gc1 gd1 ge1 ao2 z2 cap2 w2 hc2 wf2).mono fun e W' ⟨he, bel⟩ => ?_
  subst he
  exact ⟨_, rfl, _, _, _, [], _, [], hW', trodAll_mk1 (shut_bool Try.underlying4 _), (trodAll_cons_mk (Below.trod reqAnswers_laidOut (by kernel_rfl) (of_decide_eq_true (by kernel_rfl)) k0 bel lt0) (trodAll_cons_mk (Below.trod reqAnswers_laidOut (by kernel_rfl) (of_decide_eq_true (by kernel_rfl)) k1 bel lt1) (trodAll_cons_mk (Below.trod reqAnswers_laidOut (by kernel_rfl) (of_decide_eq_true (by kernel_rfl)) k2 bel lt2) trodAll_mk0))), rfl, bel.frame _, fun h => by cases h⟩

theorem reqAnswers_over : Rows.reqAnswersRow.holds Try.pinned (OpenSpec.ofChange Rows.reqAnswersSpec) :=
  OpenClaim.holds_of_wide 11 Try.f11 rfl rfl rfl rfl rfl rfl rfl ⟨rfl, rfl, rfl, rfl, rfl⟩ rfl rfl rfl rfl rfl (by kernel_rfl) Try.func11 (by kernel_rfl)
    (of_decide_eq_true (by kernel_rfl)) (by unfold Func.isWrapper; first | (rw [if_pos (by decide +kernel)]; kernel_rfl) | (rw [if_neg (by decide +kernel)]; exact ⟨rfl, rfl⟩))
    (fun os started H enc _ => reqAnswers_lifted os started H enc)

/-- The statement. -/
theorem reqAnswers_holds : Rows.ReqAnswersSaid := reqAnswers_over
#print axioms reqAnswers_holds
end Go.Proofs.Ytadejcpifabpoaa
