/- ReqBack's walk. -/
import Derived.Test.YtadejcpifabpoaaIn6
import Derived.Test.YtadejcpifabpoaaReq8
import Derived.Test.YtadejcpifabpoaaRsz
import Derived.Test.YtadejcpifabpoaaBoxz
import Derived.Test.YtadejcpifabpoaaArgs
import Derived.Deep.CutBlock
import Derived.Deep.DeepCutAuto
namespace Go.Proofs.Ytadejcpifabpoaa
open Go.RowKit
set_option linter.unusedVariables false

theorem sameB_self (s : Int) (xs : List RQ) : sameB s xs s xs = true := (sameB_iff _ _ _ _).2 ⟨rfl, rfl⟩
theorem sameA_self (P : AN) : sameA P.c P.q P.rs P.es P.c P.q P.rs P.es = true := (sameA_iff _ _ _ _ _ _ _ _).2 ⟨rfl, rfl, rfl, rfl⟩

theorem ansF_le (P : AN) (h : (ansF P.c P.q P.rs P.es).2 = 0) : (ansF P.c P.q P.rs P.es).1.length ≤ 10000000 := by
  obtain ⟨h1, h2⟩ := ansF_ok (a := P) h
  have h2' : (ansF P.c P.q P.rs P.es).1 = ansB P.c P.q P.rs P.es := h2
  unfold ansAll ansOK at h1
  simp only [Bool.and_eq_true, decide_eq_true_eq] at h1
  obtain ⟨⟨⟨⟨⟨⟨_, h64⟩, h400⟩, _⟩, _⟩, _⟩, hes⟩ := h1
  rw [h2']
  unfold ansB
  have e1 : ∀ l : List (Int × Int), (l.flatMap chunkRep).length ≤ 3 * l.length := by
    intro l
    induction l with
    | nil => simp
    | cons r l ih =>
      have h3 : (chunkRep r).length = 3 := by simp [chunkRep, putB_length]
      rw [List.flatMap_cons, List.length_append, List.length_cons, h3]; omega
  have e2 : ∀ l : List EV, l.all (okE true) = true → (l.flatMap (chunkE true)).length ≤ 60 * l.length := by
    intro l
    induction l with
    | nil => intro _; simp
    | cons r l ih =>
      intro hl
      rw [List.all_cons, Bool.and_eq_true] at hl
      have := ih hl.2
      have := chunk_le r hl.1
      rw [List.flatMap_cons, List.length_append, List.length_cons]; omega
  have := e1 P.rs
  have := e2 P.es hes
  simp only [List.length_append, putB_length]
  omega

set_option maxRecDepth 100000 in
set_option maxHeartbeats 8000000 in
theorem back_core (W : World) (s1 : Int) (ao : Option Addr) (xs : List RQ) (n c : Nat) (P : AN) (ra : Option Addr) (n1 rc1 : Nat) (ea : Option Addr) (m1 ec1 : Nat) (bo : Option Addr) (zs : List Int) (l d : Nat)
    (hn : xs.length = n) (hx : RqsAt W ao xs) (hc : n ≤ c ∧ c ≤ maxLen)
    (hn1 : P.rs.length = n1) (hm1 : P.es.length = m1) (hr1 : RepsAt W ra P.rs) (he1 : EvsAt W ea P.es) (hc1 : m1 ≤ ec1 ∧ ec1 ≤ maxLen)
    (hl : zs.length = l) (hz : IntsAt .u8 W bo zs) (hzb : InB zs) (hd : l ≤ d ∧ d ≤ maxLen) :
    Calls Try.prog 12 #[.agg (#[.int .i64 s1, .slice ao n c], 46).1, .agg (#[.int .i64 P.c, .int .i64 P.q, .slice ra n1 rc1, .slice ea m1 ec1], 57).1, .slice bo l d] W fun e w' => e = .returned (.bool true) ∧ Below W.heap.size W w' := by
  obtain ⟨w2, hw2⟩ : ∃ w2, w2 = (W.alloc (.cells #[.int .i64 s1, .slice ao n c] 46)).alloc (.cells #[.int .i64 P.c, .int .i64 P.q, .slice ra n1 rc1, .slice ea m1 ec1] 57) := ⟨_, rfl⟩
  obtain ⟨BS, hBS⟩ : ∃ BS : List (Array Value × TypeId), BS = [(#[.int .i64 s1, .slice ao n c], 46), (#[.int .i64 P.c, .int .i64 P.q, .slice ra n1 rc1, .slice ea m1 ec1], 57)] := ⟨_, rfl⟩
  have HB2 : Hid (Boxes W w2 BS) := Lib.hid (by
    subst hw2
    subst hBS
    exact ((Boxes.nil W).push (by simp) _ _).push (by simp) _ _)
  have HC : Hid (∀ w', Boxes W w' BS → w'.cell? ⟨W.heap.size, 0, none⟩ = some (.int .i64 s1) ∧ w'.cell? ⟨W.heap.size, 1, none⟩ = some (.slice ao n c) ∧ w'.cell? ⟨W.heap.size + 1, 0, none⟩ = some (.int .i64 P.c) ∧ w'.cell? ⟨W.heap.size + 1, 1, none⟩ = some (.int .i64 P.q) ∧ w'.cell? ⟨W.heap.size + 1, 2, none⟩ = some (.slice ra n1 rc1) ∧ w'.cell? ⟨W.heap.size + 1, 3, none⟩ = some (.slice ea m1 ec1)) := Lib.hid (by
    intro w' h
    subst hBS
    exact ⟨h.cell 0 0 rfl, h.cell 0 1 rfl, h.cell 1 0 rfl, h.cell 1 1 rfl, h.cell 1 2 rfl, h.cell 1 3 rfl⟩)
  have HFX := Lib.hid (fun w' (h : Below W.heap.size W w') => few11_any s1 ao xs n c w' hn (hx.below h) hc.1 hc.2)
  have HGP := Lib.hid (fun w' (h : Below W.heap.size W w') => fewAnswer_any P.c P.q ra n1 rc1 ea P.es m1 ec1 w' hm1 (he1.below h) hc1.1 hc1.2)
  have HEX := Lib.hid (fun (hs : fewRq xs = true) w' (h : Below W.heap.size W w') => encodeBatch s1 ao xs n c w' hn (hx.below h) (by have := (fewRq_facts xs hs).2; omega))
  have HEP := Lib.hid (fun (hs : fewAns n1 P.es = true) w' (h : Below W.heap.size W w') => encodeAnswer P.c P.q ra P.rs n1 rc1 ea P.es m1 ec1 w' hn1 (hr1.below h) hm1 (he1.below h) (by have := (fewAns_facts _ _ hs).2.2; omega))
  have HDX := Lib.hid (fun (h40 : l ≤ 40000) w' (h : Below W.heap.size W w') => decodeBatch bo zs l d w' hl (ints_below hz h) hzb hd.1 hd.2 (by omega))
  have HDA := Lib.hid (fun (h40 : l ≤ 40000) w' (h : Below W.heap.size W w') => decodeAnswer bo zs l d w' hl (ints_below hz h) hzb hd.1 hd.2 (by omega))
  have HSB := Lib.hid (fun (h1 : fewRq xs = true) (yo : Option Addr) (m c' : Nat) w' (h : Below W.heap.size W w') (hm : xs.length = m) (hy : RqsAt w' yo xs) => sameBatch s1 yo xs m c' s1 ao xs n c w' hm hn hy (hx.below h) (by have := (fewRq_facts xs h1).1; omega))
  have HSA := Lib.hid (fun (h1 : fewAns n1 P.es = true) (rb : Option Addr) (n2 rc2 : Nat) (eb : Option Addr) (m2 ec2 : Nat) w' (h : Below W.heap.size W w') (hn2 : P.rs.length = n2) (hr2 : RepsAt w' rb P.rs) (hm2 : P.es.length = m2) (he2 : EvsAt w' eb P.es) => sameAnswer P.c P.q rb P.rs n2 rc2 eb P.es m2 ec2 P.c P.q ra P.rs n1 rc1 ea P.es m1 ec1 w' hn2 hm2 hn1 hm1 hr2 (hr1.below h) he2 (he1.below h) (by have := fewAns_facts _ _ h1; omega) (by have := fewAns_facts _ _ h1; omega))
  have HBQ := Lib.hid (fun (xo : Option Addr) (k kc : Nat) (ys : List Int) w' (h : Below W.heap.size W w') (hk : ys.length = k) (hy : IntsAt .u8 w' xo ys) (hyb : InB ys) => bytes_eq xo bo ys zs k l kc d w' hk hl hy (ints_below hz h) hyb hzb)
  have HIX := Lib.hid (encF_in s1 xs)
  have HIP := Lib.hid (ansF_in P.c P.q P.rs P.es)
  have HD1 := Lib.hid (decF_enc s1 xs)
  have HD2 : Hid ((ansF P.c P.q P.rs P.es).2 = 0 → decA (ansF P.c P.q P.rs P.es).1 = (P, 0)) := Lib.hid (decA_enc P)
  have HZB := Lib.hid hzb
  have HW2 := Lib.hid hw2
  clear hn hx hc hn1 hm1 hr1 he1 hc1 hl hz hzb hd hw2 hBS
  go_enter Try.func12, Try.ntmps12
  go_wp2_with fail
  rw [← HW2.out]
  refine (first11_any w2).mono ?_
  rintro e w3 ⟨rfl, hb3⟩
  have HB3 := Lib.hid (HB2.out.below hb3)
  obtain ⟨a0, a1, a2, a3, a4, a5⟩ := HC.out w3 HB3.out
  clear hb3
  go_wp2_with fail
  refine (HFX.out w3 HB3.out.base).mono ?_
  rintro e w4 ⟨rfl, hb4⟩
  have HB4 := Lib.hid (HB3.out.below hb4)
  clear hb4 a0 a1 a2 a3 a4 a5
  obtain ⟨a0, a1, a2, a3, a4, a5⟩ := HC.out w4 HB4.out
  by_cases hf : fewRq xs = true
  case neg =>
    have hf' : fewRq xs = false := by simpa using hf
    rw [hf']
    clear hf hf'
    go_wp2_with fail
    refine (first11_any w4).mono ?_
    rintro e w5 ⟨rfl, hb⟩
    go_wp2
    go_ret
    exact ⟨rfl, (HB4.out.below hb).base⟩
  have HF := Lib.hid hf
  rw [hf]
  clear hf
  go_wp2_with fail
  refine (HGP.out w4 HB4.out.base).mono ?_
  rintro e w5 ⟨rfl, hb5⟩
  have HB5 := Lib.hid (HB4.out.below hb5)
  clear hb5 a0 a1 a2 a3 a4 a5
  obtain ⟨a0, a1, a2, a3, a4, a5⟩ := HC.out w5 HB5.out
  by_cases hg : fewAns n1 P.es = true
  case neg =>
    have hg' : fewAns n1 P.es = false := by simpa using hg
    rw [hg']
    clear hg hg'
    go_wp2_with fail
    refine (first11_any w5).mono ?_
    rintro e w6 ⟨rfl, hb⟩
    go_wp2
    go_ret
    exact ⟨rfl, (HB5.out.below hb).base⟩
  have HG := Lib.hid hg
  rw [hg]
  clear hg
  by_cases h40 : (40000 : Int) < (l : Int)
  case pos =>
    go_wp2_with fail
    refine (first11_any w5).mono ?_
    rintro e w6 ⟨rfl, hb⟩
    go_wp2
    go_ret
    exact ⟨rfl, (HB5.out.below hb).base⟩
  have H40 := Lib.hid (show l ≤ 40000 by omega)
  go_wp2_with fail
  refine (HEX.out HF.out w5 HB5.out.base).mono ?_
  rintro e w6 ⟨eo, ecap, rfl, hi6, hb6, _, hec⟩
  have HB6 := Lib.hid (HB5.out.below hb6)
  have HI6 := Lib.hid hi6
  have HEC := Lib.hid hec
  clear hb6 hi6 hec a0 a1 a2 a3 a4 a5
  have HLL : Hid ((encF s1 xs).2 = 0 → (encF s1 xs).1.length ≤ 1000000) := Lib.hid (fun her => by
    have := encF_len s1 xs her
    have h2 := rqLens_le xs
    have h3 := (fewRq_facts xs HF.out).1
    omega)
  have H12 := Lib.hid (encF_12 s1 xs)
  generalize encF s1 xs = E at *
  obtain ⟨pk, er⟩ := E
  simp only at HLL H12 HIX HD1 HI6 HEC
  go_upto_if 45 with fail
  go_cut [] (fun wx => Boxes W wx BS)
  case first =>
    obtain ⟨a0, a1, a2, a3, a4, a5⟩ := HC.out w6 HB6.out
    by_cases her : er = 0
    · subst her
      have HDD := Lib.hid (decodeBatch eo pk pk.length ecap w6 rfl HI6.out HIX.out HEC.out.1 HEC.out.2 (HLL.out rfl))
      rw [HD1.out rfl] at HDD
      go_wp2_with fail
      refine HDD.out.mono ?_
      rintro e w7 ⟨yo, m, c', rfl, hm, hy, _, _, _, _, hb7⟩
      have HB7 := Lib.hid ((HB6.out.below hb7).below ((Below.refl _ _).alloc (Nat.le_refl _) (.cells #[.int .i64 s1, .slice yo m c'] 46)))
      have HS := Lib.hid (HSB.out HF.out yo m c' (w7.alloc (.cells #[.int .i64 s1, .slice yo m c'] 46)) HB7.out.base hm (hy.below ((Below.refl _ _).alloc (Nat.le_refl _) _)))
      rw [sameB_self] at HS
      clear hy hb7 a0 a1 a2 a3 a4 a5 hm
      obtain ⟨a0, a1, a2, a3, a4, a5⟩ := HC.out _ HB7.out
      go_wp2_with fail
      refine HS.out.mono ?_
      rintro e w8 ⟨rfl, hb8⟩
      go_wp2_with fail
      go_meet
      case rel => exact HB7.out.below hb8
    · obtain rfl : er = 1 := by
        rcases H12.out with h | h
        · exact absurd h her
        · simp only [Prod.mk.injEq] at h; exact h.2
      clear her
      go_wp2_with fail
      go_meet
      case rel => exact HB6.out
  case rest =>
    have HB7 := Lib.hid hcut
    clear hcut HI6 HEC HB6 HB5 HB4 HB3 HSB HD1
    obtain ⟨a0, a1, a2, a3, a4, a5⟩ := HC.out _ HB7.out
    go_wp2_with fail
    refine (HEP.out HG.out _ HB7.out.base).mono ?_
    rintro e w6 ⟨eo, ecap, rfl, hi6, hb6, _, hec⟩
    have HB6 := Lib.hid (HB7.out.below hb6)
    have HI6 := Lib.hid hi6
    have HEC := Lib.hid hec
    clear hb6 hi6 hec a0 a1 a2 a3 a4 a5
    have HLL := Lib.hid (ansF_le P)
    have H12 : Hid ((ansF P.c P.q P.rs P.es).2 = 0 ∨ ansF P.c P.q P.rs P.es = ([], 1)) := Lib.hid (ansF_12 P)
    generalize ansF P.c P.q P.rs P.es = E at *
    obtain ⟨pk2, er⟩ := E
    simp only at HLL H12 HIP HD2 HI6 HEC
    go_upto_if 65 with fail
    go_cut [] (fun wx => Boxes W wx BS)
    case first =>
      obtain ⟨a0, a1, a2, a3, a4, a5⟩ := HC.out w6 HB6.out
      by_cases her : er = 0
      · subst her
        have HDD := Lib.hid (decodeAnswer eo pk2 pk2.length ecap w6 rfl HI6.out HIP.out HEC.out.1 HEC.out.2 (HLL.out rfl))
        rw [HD2.out rfl] at HDD
        go_wp2_with fail
        refine HDD.out.mono ?_
        rintro e w7 ⟨rb, n2, rc2, eb, m2, ec2, rfl, hn2, hr2, hm2, he2, _, _, _, _, _, _, hb7⟩
        have HB8 := Lib.hid ((HB6.out.below hb7).below ((Below.refl _ _).alloc (Nat.le_refl _) (.cells #[.int .i64 P.c, .int .i64 P.q, .slice rb n2 rc2, .slice eb m2 ec2] 57)))
        have HS := Lib.hid (HSA.out HG.out rb n2 rc2 eb m2 ec2 (w7.alloc (.cells #[.int .i64 P.c, .int .i64 P.q, .slice rb n2 rc2, .slice eb m2 ec2] 57)) HB8.out.base hn2 (hr2.below ((Below.refl _ _).alloc (Nat.le_refl _) _)) hm2 (he2.below ((Below.refl _ _).alloc (Nat.le_refl _) _)))
        rw [sameA_self] at HS
        clear hr2 he2 hb7 a0 a1 a2 a3 a4 a5 hn2 hm2
        obtain ⟨a0, a1, a2, a3, a4, a5⟩ := HC.out _ HB8.out
        go_wp2_with fail
        refine HS.out.mono ?_
        rintro e w8 ⟨rfl, hb8⟩
        go_wp2_with fail
        go_meet
        case rel => exact HB8.out.below hb8
      · obtain rfl : er = 1 := by
          rcases H12.out with h | h
          · exact absurd h her
          · simp only [Prod.mk.injEq] at h; exact h.2
        clear her
        go_wp2_with fail
        go_meet
        case rel => exact HB6.out
    case rest =>
      have HB9 := Lib.hid hcut
      clear hcut HI6 HEC HB6 HB7 HSA HD2 HEX HEP HIX HIP
      go_wp2_with fail
      refine (HDX.out H40.out _ HB9.out.base).mono ?_
      rintro e w6 ⟨yo, m, c', rfl, hm, hy, hmc, hcm, _, hsum, hb6⟩
      have HB6 := Lib.hid ((HB9.out.below hb6).below ((Below.refl _ _).alloc (Nat.le_refl _) (.cells #[.int .i64 (decF zs).1.1, .slice yo m c'] 46)))
      have HEN := Lib.hid (encodeBatch (decF zs).1.1 yo (decF zs).1.2 m c' (w6.alloc (.cells #[.int .i64 (decF zs).1.1, .slice yo m c'] 46)) hm (hy.below ((Below.refl _ _).alloc (Nat.le_refl _) _)) (by omega))
      have HZ1 : Hid ((decF zs).2 = 0 → encF (decF zs).1.1 (decF zs).1.2 = (zs, 0)) := Lib.hid (fun h => decF_ok h)
      have HZ2 := Lib.hid (decF_12 zs)
      clear hm hy hb6 hsum
      generalize decF zs = D at *
      obtain ⟨⟨q1, l1⟩, er⟩ := D
      go_upto_if 85 with fail
      go_cut [] (fun wx => Boxes W wx BS)
      case first =>
        by_cases her : er = 0
        · subst her
          have HZ3 := Lib.hid (HZ1.out rfl)
          rw [HZ3.out] at HEN
          go_wp2_with fail
          refine HEN.out.mono ?_
          rintro e w7 ⟨eo, ecap, rfl, hi7, hb7, _, _⟩
          have HB7 := Lib.hid (HB6.out.below hb7)
          have HEQ := Lib.hid (HBQ.out eo zs.length ecap zs w7 HB7.out.base rfl hi7 HZB.out)
          rw [eqB_self] at HEQ
          clear hi7 hb7
          go_wp2_with fail
          refine HEQ.out.mono ?_
          rintro e w8 ⟨rfl, rfl⟩
          go_wp2_with fail
          go_meet
          case rel => exact HB7.out
        · obtain rfl : er = 2 := by
            rcases HZ2.out with h | h
            · exact absurd h her
            · simp only [Prod.mk.injEq] at h; exact h.2
          clear her
          go_wp2_with fail
          go_meet
          case rel => exact HB6.out
      case rest =>
        have HB9 := Lib.hid hcut
        clear hcut HB6 HEN HZ1 HZ2 HDX
        go_wp2_with fail
        refine (HDA.out H40.out _ HB9.out.base).mono ?_
        rintro e w6 ⟨rb, n2, rc2, eb, m2, ec2, rfl, hn2, hr2, hm2, he2, _, _, _, _, _, hsum, hb6⟩
        have HB6 := Lib.hid ((HB9.out.below hb6).below ((Below.refl _ _).alloc (Nat.le_refl _) (.cells #[.int .i64 (decA zs).1.c, .int .i64 (decA zs).1.q, .slice rb n2 rc2, .slice eb m2 ec2] 57)))
        have HEN := Lib.hid (encodeAnswer (decA zs).1.c (decA zs).1.q rb (decA zs).1.rs n2 rc2 eb (decA zs).1.es m2 ec2 (w6.alloc (.cells #[.int .i64 (decA zs).1.c, .int .i64 (decA zs).1.q, .slice rb n2 rc2, .slice eb m2 ec2] 57)) hn2 (hr2.below ((Below.refl _ _).alloc (Nat.le_refl _) _)) hm2 (he2.below ((Below.refl _ _).alloc (Nat.le_refl _) _)) (by omega))
        have HZ1 : Hid ((decA zs).2 = 0 → ansF (decA zs).1.c (decA zs).1.q (decA zs).1.rs (decA zs).1.es = (zs, 0)) := Lib.hid (fun h => decA_ok h)
        have HZ2 := Lib.hid (decA_12 zs)
        clear hn2 hr2 hm2 he2 hb6 hsum
        generalize decA zs = D at *
        obtain ⟨⟨q0, q1, l1, l2⟩, er⟩ := D
        go_upto_if 105 with fail
        go_cut [] (fun wx => Boxes W wx BS)
        case first =>
          by_cases her : er = 0
          · subst her
            have HZ3 := Lib.hid (HZ1.out rfl)
            rw [HZ3.out] at HEN
            go_wp2_with fail
            refine HEN.out.mono ?_
            rintro e w7 ⟨eo, ecap, rfl, hi7, hb7, _, _⟩
            have HB7 := Lib.hid (HB6.out.below hb7)
            have HEQ := Lib.hid (HBQ.out eo zs.length ecap zs w7 HB7.out.base rfl hi7 HZB.out)
            rw [eqB_self] at HEQ
            clear hi7 hb7
            go_wp2_with fail
            refine HEQ.out.mono ?_
            rintro e w8 ⟨rfl, rfl⟩
            go_wp2_with fail
            go_meet
            case rel => exact HB7.out
          · obtain rfl : er = 2 := by
              rcases HZ2.out with h | h
              · exact absurd h her
              · simp only [Prod.mk.injEq] at h; exact h.2
            clear her
            go_wp2_with fail
            go_meet
            case rel => exact HB6.out
        case rest =>
          have HB8 := Lib.hid hcut
          clear hcut HB6 HB9 HEN HZ1 HZ2 HDA
          go_wp2_with fail
          refine (first11_any _).mono ?_
          rintro e w6 ⟨rfl, hb⟩
          go_wp2
          go_ret
          exact ⟨rfl, (HB8.out.below hb).base⟩

theorem walk_reqBack (W : World) (s1 : Int) (ao : Option Addr) (xs : List RQ) (n c : Nat) (hn : xs.length = n) (hx : RqsAt W ao xs) (hc : n ≤ c) (hc' : c ≤ maxLen)
    (P : AN) (ra : Option Addr) (n1 rc1 : Nat) (ea : Option Addr) (m1 ec1 : Nat) (hn1 : P.rs.length = n1) (hm1 : P.es.length = m1) (hr1 : RepsAt W ra P.rs) (he1 : EvsAt W ea P.es) (hc1 : m1 ≤ ec1 ∧ ec1 ≤ maxLen)
    (bo : Option Addr) (zs : List Int) (d : Nat) (hz : IntsAt .u8 W bo zs) (hd : zs.length ≤ d) (wf : d ≤ maxLen ∧ ∀ z ∈ zs, (Lit.int .u8 z).wf = true) :
    Calls Try.prog 12 #[.agg #[.int .i64 s1, .slice ao n c], .agg #[.int .i64 P.c, .int .i64 P.q, .slice ra n1 rc1, .slice ea m1 ec1], .slice bo zs.length d] W fun e w' => e = .returned (.bool true) ∧ Below W.heap.size W w' :=
  back_core W s1 ao xs n c P ra n1 rc1 ea m1 ec1 bo zs zs.length d hn hx ⟨hc, hc'⟩ hn1 hm1 hr1 he1 hc1 rfl hz (inB_of_wf wf.2) ⟨hd, wf.1⟩

end Go.Proofs.Ytadejcpifabpoaa
