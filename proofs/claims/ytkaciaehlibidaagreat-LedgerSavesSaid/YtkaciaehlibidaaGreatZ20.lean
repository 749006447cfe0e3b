/- Parts of the proof: Le5 Rowz Reqa Ll0. -/
import Derived.Test.YtkaciaehlibidaaGreatZ01
import Derived.Test.YtkaciaehlibidaaGreatZ10
import Derived.Test.YtkaciaehlibidaaGreatZ11
import Derived.Test.YtkaciaehlibidaaGreatZ19
import Derived.Deep.Slices
import Derived.Deep.Fields
namespace Go.Proofs.YtkaciaehlibidaaGreat
open Go.RowKit
set_option linter.unusedVariables false
set_option linter.unusedSimpArgs false
section
variable {S : Nat → Prop} {W w : World} {n m : Nat} {E : Int} {s : LS} {T : Nat → Int} {A B tb q : Nat}
set_option maxRecDepth 100000 in
set_option maxHeartbeats 2000000 in
theorem ledger_apply (h : LD S W w n m E s T A B tb q) (p ck seen : Int) (ro : Option Addr) (rs : List RQ) (rn rc : Nat) (hrn : rs.length = rn) (hrc : rn ≤ rc) (hrm : rc ≤ maxLen) (hqS : ∀ w', Keeps S w w' → RqsAt w' ro rs) (hsz : ∀ r ∈ rs, r.h.size + r.s.size ≤ 1000000000) :
 Calls Tryz.prog 12 #[.pointer (some ⟨A, 0, none⟩), .int .i64 p, .int .i64 ck, .agg #[.int .i64 seen, .slice ro rn rc]] w (AppPost S W w n m E (applyF n m E s p ck rs) T A B tb q (appR n m E s p ck rs) (dropF (applyF n m E s p ck rs).evs seen)) := by
 have HI := Lib.hid h.inv
 have HWW := Lib.hid h.bel.size
 have HSZ := Lib.hid hsz
 have HQS := Lib.hid hqS
 have HRN := Lib.hid hrn
 obtain ⟨Sb0, v0, hd0, hi0, hS0⟩ := h.dat
 have HS0 := Lib.hid hS0
 have HLT := Lib.hid h.lt
 obtain ⟨Q, hQ⟩ : ∃ Q, Q = w.heap.size := ⟨_, rfl⟩
 obtain ⟨Z, hZ⟩ : ∃ Z, Z = w.heap.size + 1 := ⟨_, rfl⟩
 obtain ⟨w1, hw1⟩ : ∃ w1, w1 = (w.alloc (.cells #[.int .i64 seen, .slice ro rn rc] 41)).alloc (.cells #[.int .i64 0, .int .i64 0, .slice none 0 0, .slice none 0 0] 37) := ⟨_, rfl⟩
 have e1 : (w.alloc (.cells #[.int .i64 seen, .slice ro rn rc] 41)).heap.size = w.heap.size + 1 := by simp
 have hb1 : Below w.heap.size w w1 := by rw [hw1]; exact ((Below.refl _ _).alloc (Nat.le_refl _) _).alloc (by simp) _
 have HQ1 : Hid (w1.heap[Q]? = some (.cells #[.int .i64 seen, .slice ro rn rc] 41 (0, 0))) := Lib.hid (by rw [hw1, hQ]; exact (Below.heap_alloc _ _ _ (by omega)).trans (heap_alloc_new w _))
 have HZ1 : Hid (w1.heap[Z]? = some (.cells #[.int .i64 0, .int .i64 0, .slice none 0 0, .slice none 0 0] 37 (0, 0))) := Lib.hid (by rw [hw1, hZ, ← e1]; exact heap_alloc_new _ _)
 have HB1 := Lib.hid hb1
 have HD1 := Lib.hid (hd0.below hb1)
 have HW1 := Lib.hid hw1
 have HQZ : Hid (Q = w.heap.size ∧ Z = w.heap.size + 1 ∧ w1.heap.size = w.heap.size + 1 + 1) := Lib.hid ⟨hQ, hZ, by rw [hw1]; simp⟩
 obtain ⟨s1, hs1⟩ : ∃ s1, s1 = tickF s ck := ⟨_, rfl⟩
 have HS1 := Lib.hid hs1
 have HI1 : Hid (LInv n m E s1 T) := Lib.hid (by rw [hs1]; exact hi0.ticks ck)
 have HAP : Hid (applyF n m E s p ck rs = runF n m E p s1 (rs.take 64)) := Lib.hid (by rw [hs1]; rfl)
 have HAR : Hid (appR n m E s p ck rs = repsF n m E p s1 (rs.take 64)) := Lib.hid (by rw [hs1]; rfl)
 have HRC := Lib.hid (And.intro hrc hrm)
 generalize applyF n m E s p ck rs = SF at *
 generalize appR n m E s p ck rs = YF at *
 clear h hw1 hb1 hQ hZ e1 hd0 hi0 hS0 hs1 hqS hsz hrn hrc hrm
 go_enter Tryz.func12, Tryz.ntmps12
 go_upto_region 1 with fail
 rw [← HW1.out, ← HQZ.out.2.1, ← HQZ.out.1]
 clear HW1
 go_wp2_with fail
 refine (tick_any ck w1).mono ?_
 rintro e wx ⟨rfl, rfl⟩
 rename World => w1
 obtain ⟨_, c2, c3, c4⟩ := HD1.out.cells
 have f3 := blk_frozen HD1.out.box 3
 go_upto_if 15 with fail
 go_cut [] (fun wx => LDat Sb0 W wx n m E s1 T A B tb q v0 ∧ Keeps (fun i => i = A) w1 wx)
 case first =>
  cases htk : tickB ck
  case false =>
   have HT : Hid (s1 = s) := Lib.hid (by rw [HS1.out]; unfold tickF; rw [if_neg (by rw [htk]; decide)])
   clear htk
   go_wp2_with fail
   go_meet
   case rel => exact ⟨by rw [HT.out]; exact HD1.out, Keeps.refl _ _⟩
  by_cases hm : ck ≤ s.ck
  · have HT : Hid (s1 = ⟨s.b, s.l, s.ck, s.es⟩) := Lib.hid (by rw [HS1.out]; unfold tickF; rw [if_pos htk]; congr 1; omega)
    clear htk
    go_wp2_with fail
    go_meet
    case rel => exact ⟨by rw [HT.out]; exact HD1.out.tick _, (Keeps.refl (fun i => i = A) w1).setCell (p := ⟨A, 3, none⟩) (Or.inl rfl) _⟩
  · have HT : Hid (s1 = ⟨s.b, s.l, ck, s.es⟩) := Lib.hid (by rw [HS1.out]; unfold tickF; rw [if_pos htk]; congr 1; omega)
    clear htk
    go_wp2_with fail
    go_meet
    case rel => exact ⟨by rw [HT.out]; exact HD1.out.tick _, (Keeps.refl (fun i => i = A) w1).setCell (p := ⟨A, 3, none⟩) (Or.inl rfl) _⟩
 case rest =>
 obtain ⟨hd2, hk2⟩ := hcut
 rename World => w2
 have HD2 := Lib.hid hd2
 have HK2 := Lib.hid hk2
 clear hd2 hk2 c2 c3 c4 f3
 obtain ⟨_, c2, c3, c4⟩ := HD2.out.cells
 go_upto_region 4 with fail
 obtain ⟨N, hN⟩ : ∃ N, N = w2.heap.size := ⟨_, rfl⟩
 obtain ⟨w3, hw3⟩ : ∃ w3, w3 = w2.alloc (.cells #[.int .i64 s1.ck, .int .i64 0, .slice none 0 0, .slice none 0 0] 37) := ⟨_, rfl⟩
 rw [← hw3, ← hN]
 have HAP3 : Hid (ApAt S W w w3 n m E s1 T A B tb q N Z Q seen ro rn rc [] (.slice none 0 0) S) := Lib.hid (by
  have hb3 : Below w2.heap.size w2 w3 := by rw [hw3]; exact (Below.refl _ _).alloc (Nat.le_refl _) _
  have hA := blk_lt HD1.out.box
  have hZ1 := blk_lt HZ1.out
  have hQ1 := blk_lt HQ1.out
  have hs := HQZ.out
  have hs2 := HK2.out.size
  have hAS : S A := (HS0.out A).2 (Or.inr (Or.inl rfl))
  have hAl := HLT.out A hAS
  refine ⟨⟨Sb0, v0, HD2.out.below hb3, HI1.out, HS0.out⟩, ?_, fun i hi => Or.inl hi, by rw [hw3, hN]; exact heap_alloc_new _ _, ⟨_, _, _, _, (hb3.block Z (by omega)).trans ((HK2.out.block Z hZ1 (by omega)).trans HZ1.out)⟩, (hb3.block Q (by omega)).trans ((HK2.out.block Q hQ1 (by omega)).trans HQ1.out), World.ownsRow_nil _ _ _ _, ⟨fun h => by have := HLT.out N h; omega, fun h => by have := HLT.out Z h; omega, fun h => by have := HLT.out Q h; omega, by omega, by omega, by omega⟩, (fun g hg => by cases hg), by omega, (fun g hg => by cases hg)⟩
  exact ((Keeps.of_below (S := S) HB1.out).trans (HK2.out.mono (S' := S) (fun i _ e => e ▸ hAS)) (fun i hi => Or.inl hi)).trans (Keeps.of_below (S := fun _ => False) hb3) (fun i f => f.elim))
 clear hw3 hN HD1 HQ1 HZ1 HB1 HQZ HD2 HK2 HS0 HLT c2 c3 c4
 have q0 := blk_cell HAP3.out.qb 0
 have q1 := blk_cell HAP3.out.qb 1
 simp only [lq] at q0 q1
 obtain ⟨K, hK⟩ : ∃ K, K = min rn 64 := ⟨_, rfl⟩
 have HK := Lib.hid hK
 have hsl : ∀ w, (Instr.slice 39 (.slice ro rn rc) none (some (.int .i64 (K : Int))) none).run Tryz.prog w = .ok (.slice ro K rc) w := fun w => slice_rq ro rn rc K (by have := HRC.out.1; omega) w
 clear hK
 go_cut [36, 37, 38] (fun a b c wx => a = .slice ro K rc ∧ b = .int .i64 (K : Int) ∧ c = .int .i64 0 ∧ wx = w3)
 case first =>
  by_cases hr : rn ≤ 64
  · have hKe : (K : Int) = (rn : Int) := by have := HK.out; omega
    rw [hKe] at hsl
    have i1 : (rn : Int) ≤ 64 := by omega
    go_wp2_with fail
    go_meet
    case rel => exact ⟨rfl, by rw [hKe], rfl, rfl⟩
  · have hKe : (K : Int) = 64 := by have := HK.out; omega
    rw [hKe] at hsl
    have i1 : ¬ (rn : Int) ≤ 64 := by omega
    go_wp2_with fail
    go_meet
    case rel => exact ⟨rfl, by rw [hKe], rfl, rfl⟩
 case rest =>
 obtain ⟨rfl, rfl, rfl, rfl⟩ := hcut
 rename World => w3
 clear hsl q0 q1
 have HSB : Hid (∀ r ∈ rs, r.h.size + r.s.size ≤ 1000000000) := HSZ
 have hK64 : (K : Int) ≤ 64 := by have := HK.out; omega
 go_wp2_with fail
 go_loopw [38] (fun i wr => ∃ k : Nat, k ≤ K ∧ i = .int .i64 (k : Int) ∧ ∃ S' ao c, ApAt S W w wr n m E (runF n m E p s1 (rs.take k)) T A B tb q N Z Q seen ro rn rc (repsF n m E p s1 (rs.take k)) (.slice ao k c) S') (fun i _ => K - (intOf i).toNat)
 case atStart => exact ⟨0, by omega, rfl, S, none, 0, HAP3.out⟩
 case round =>
  obtain ⟨k, hk, rfl, S4, ao, c, hap⟩ := hrel
  have HA4 := Lib.hid hap
  clear hap HAP3
  by_cases hlt : k < K
  · have k0 : (0 : Int) ≤ (k : Int) := by omega
    have k1 : (k : Int) < (K : Int) := by omega
    have hkr : k < rs.length := by rw [HRN.out]; have := HK.out; omega
    have HKL : Hid (k < K) := Lib.hid hlt
    have hrq := HQS.out _ HA4.out.kp
    obtain ⟨rb, roff, rfl, hat⟩ : ∃ rb roff, ro = some ⟨rb, roff, none⟩ ∧ rs[k].at_ wr rb (roff + k * 8) := by
     rcases hrq with h | ⟨b, off, h1, h2⟩
     · rw [h] at hkr; simp at hkr
     · exact ⟨b, off, h1, h2 k hkr⟩
    have HRS := Lib.hid (HSZ.out rs[k] (List.getElem_mem hkr))
    have HRUN := Lib.hid (runF_snoc (n := n) (m := m) (E := E) p s1 rs k hkr)
    have HREP := Lib.hid (repsF_snoc (n := n) (m := m) (E := E) p s1 rs k hkr)
    have HYL : Hid ((repsF n m E p s1 (rs.take k)).length = k) := Lib.hid (by rw [repsF_len, List.length_take]; omega)
    generalize rs[k] = r at *
    generalize runF n m E p s1 (rs.take k) = st at *
    generalize repsF n m E p s1 (rs.take k) = ys at *
    generalize hst2 : runF n m E p s1 (rs.take (k + 1)) = st2 at *
    generalize hys2 : repsF n m E p s1 (rs.take (k + 1)) = ys2 at *
    have HST2 := Lib.hid hst2
    have HYS2 := Lib.hid hys2
    clear hst2 hys2
    obtain ⟨a0, a1, a2, a3, a4, a5, a6, a7⟩ := hat.all
    obtain ⟨w4, hw4⟩ : ∃ w4, w4 = wr.alloc (.cells r.cells 52) := ⟨_, rfl⟩
    obtain ⟨R, hR⟩ : ∃ R, R = wr.heap.size := ⟨_, rfl⟩
    have hb4 : Below wr.heap.size wr w4 := by rw [hw4]; exact (Below.refl _ _).alloc (Nat.le_refl _) _
    have HR4 : Hid (RqB w4 R r) := Lib.hid (by rw [hw4, hR]; exact heap_alloc_new _ _)
    have HA5 := Lib.hid (HA4.out.below hb4)
    have HW4 := Lib.hid hw4
    have HRR := Lib.hid hR
    unfold RQ.cells at HW4
    clear hw4 hR hb4 hrq hat hkr hlt hk
    go_upto_region 7 with fail
    rw [← HW4.out, ← HRR.out]
    clear HW4 a0 a1 a2 a3 a4 a5 a6 a7 HA4
    obtain ⟨r0, r1, r2, r3, r4, r5, r6, r7⟩ := HR4.out.all
    obtain ⟨Sb5, v5, hd5, hi5, hS5⟩ := HA5.out.ld.dat
    have HD5 := Lib.hid hd5
    have HI5 := Lib.hid hi5
    have HS5 := Lib.hid hS5
    have HDOES := Lib.hid (ledger_does hd5 hi5 p r HRS.out)
    unfold RQ.cells at HDOES
    clear hd5 hi5 hS5
    go_wp2_with fail
    refine HDOES.out.mono ?_
    rintro e w6 ⟨rfl, Sb6, hd6, hk6, hn6⟩
    have HD6 := Lib.hid hd6
    have HK6 := Lib.hid hk6
    have HN6 := Lib.hid hn6
    clear hd6 hk6 hn6 HDOES r0 r1 r2 r3 r4 r5 r6 r7
    have HST : Hid (st2 = stepF n m E p st r ∧ ys2 = ys ++ [repF n m E p st r]) := Lib.hid ⟨HRUN.out, HREP.out⟩
    obtain ⟨D, hD⟩ : ∃ D, D = doesF n m E st p r := ⟨_, rfl⟩
    rw [← hD] at HD6
    rw [← hD]
    have HDD := Lib.hid hD
    clear hD HRUN HREP
    unfold EV.cells
    go_upto_region 8 with fail
    obtain ⟨Y, hY⟩ : ∃ Y, Y = w6.heap.size := ⟨_, rfl⟩
    obtain ⟨X, hX⟩ : ∃ X, X = w6.heap.size + 1 := ⟨_, rfl⟩
    obtain ⟨w7, hw7⟩ : ∃ w7, w7 = (w6.alloc (.cells #[.int .i64 D.c, .int .i64 D.i] 50)).alloc (.cells #[.int .i64 D.e.k, .int .i64 D.e.f, .int .i64 D.e.t, .int .i64 D.e.a, .int .i64 D.e.n, .int .i64 D.e.i, .int .i64 D.e.d, .string D.e.h, .string D.e.s] 55) := ⟨_, rfl⟩
    have e6 : (w6.alloc (.cells #[.int .i64 D.c, .int .i64 D.i] 50)).heap.size = w6.heap.size + 1 := by simp
    have hb7 : Below w6.heap.size w6 w7 := by rw [hw7]; exact ((Below.refl _ _).alloc (Nat.le_refl _) _).alloc (by simp) _
    have HY7 : Hid (RpB w7 Y D.c D.i) := Lib.hid (by rw [hw7, hY]; exact (Below.heap_alloc _ _ _ (by omega)).trans (heap_alloc_new w6 _))
    have HX7 : Hid (EvB w7 X D.e) := Lib.hid (by rw [hw7, hX, ← e6]; exact heap_alloc_new _ _)
    have HD7 := Lib.hid (HD6.out.below hb7)
    have HK7 : Hid (Keeps S4 w4 w7) := Lib.hid ((HK6.out.mono (S' := S4) (fun i _ hi => (HS5.out i).2 (Or.inl hi))).trans (Keeps.of_below (S := fun _ => False) hb7) (fun i f => f.elim))
    have HN7 : Hid (∀ i, (Sb6 i ∨ i = A ∨ v5.ownBlock = some i) → S4 i ∨ w4.heap.size ≤ i) := Lib.hid (fun i hi => by
     rcases hi with e | e | e
     · rcases HN6.out i e with e | e
       · exact Or.inl ((HS5.out i).2 (Or.inl e))
       · exact Or.inr e
     · exact Or.inl ((HS5.out i).2 (Or.inr (Or.inl e)))
     · exact Or.inl ((HS5.out i).2 (Or.inr (Or.inr e))))
    have HYX : Hid (Y = w6.heap.size ∧ X = w6.heap.size + 1 ∧ w7.heap.size = w6.heap.size + 1 + 1) := Lib.hid ⟨hY, hX, by rw [hw7]; simp⟩
    have HL6 := Lib.hid HD6.out.lt
    rw [← hw7, ← hX, ← hY]
    clear hw7 hX hY e6 hb7 HD6 HK6 HN6 HD5
    have y0 := blk_cell HY7.out 0
    simp only [lq] at y0
    have HI2 : Hid (LInv n m E st2 T) := Lib.hid (by rw [HST.out.1]; exact HI5.out.step p r)
    have HNY : Hid (∀ i, (Sb6 i ∨ i = A ∨ v5.ownBlock = some i) → i ≠ Y ∧ i ≠ X) := Lib.hid (fun i hi => by have := HL6.out i hi; have := HYX.out; omega)
    go_upto_if 51 with fail
    go_cut [] (fun wx => ∃ S8, LD S8 W wx n m E st2 T A B tb q ∧ Keeps S4 w4 wx ∧ (∀ i, S8 i → S4 i ∨ w4.heap.size ≤ i) ∧ RpB wx Y D.c D.i ∧ ¬ S8 Y)
    case first =>
     by_cases hc : D.c = 0
     case neg =>
      have hb : (D.c == 0) = false := by simp [hc]
      have HE : Hid (st2 = ⟨D.b, D.l, st.ck, st.es⟩) := Lib.hid (by rw [HST.out.1]; unfold stepF; rw [← HDD.out, if_neg hc])
      clear hc
      go_wp2_with fail
      go_meet
      case rel =>
       refine ⟨fun i => Sb6 i ∨ i = A ∨ v5.ownBlock = some i, ⟨Sb6, v5, ?_, HI2.out, fun i => Iff.rfl⟩, HK7.out, HN7.out, HY7.out, fun h => (HNY.out Y h).1 rfl⟩
       rw [HE.out]; exact HD7.out
     have hb : (D.c == 0) = true := by simp [hc]
     obtain ⟨lo, lc, hv5, hlc, hlm⟩ := own_shape HD7.out.row
     obtain ⟨ln, hln⟩ : ∃ ln, ln = st.es.length := ⟨_, rfl⟩
     subst hv5
     obtain ⟨dn, hdn⟩ : ∃ dn : DN, dn = ⟨p, st.ck, D.e⟩ := ⟨_, rfl⟩
     have HE : Hid (st2 = ⟨D.b, D.l, st.ck, st.es ++ [dn]⟩) := Lib.hid (by rw [HST.out.1, hdn]; unfold stepF; rw [← HDD.out, if_pos hc])
     have HLN : Hid (st.es.length = ln ∧ ln ≤ 400) := Lib.hid ⟨hln.symm, by rw [hln]; exact HI5.out.len.2.1⟩
     have HDN := Lib.hid hdn
     obtain ⟨_, _, c3, c4⟩ := HD7.out.cells
     have f4 := blk_frozen HD7.out.box 4
     obtain ⟨x0, x1, x2, x3, x4, x5, x6, x7, x8⟩ := HX7.out.all
     dsimp only at c3 c4
     rw [← hln] at c4
     obtain ⟨i0, hi0, hz0, hz1, hz2⟩ := info_parts Try_infoDn
     obtain ⟨w8, hw8⟩ : ∃ w8, w8 = w7.alloc (.cells dn.cells 106) := ⟨_, rfl⟩
     have hb8 : Below w7.heap.size w7 w8 := by rw [hw8]; exact (Below.refl _ _).alloc (Nat.le_refl _) _
     have HD8 := Lib.hid (HD7.out.below (hb8.trans (below_drew w8 |>.mono hb8.size)))
     have HR8 : Hid (w8.drew.ownsRow 0 106 11 (.slice lo ln lc) ln (st.es.flatMap DN.list)) := Lib.hid (by have h := HD8.out.row; rw [HLN.out.1] at h; exact h)
     have HNW : Hid (∀ ad, some (⟨w7.heap.size, 0, none⟩ : Addr) = some ad → ∀ j u, (dn.list)[j]? = some u → w8.drew.cell? (ad.add j) = some u) := Lib.hid (fun ad had => by
      cases had
      intro j u hu
      show w8.cell? _ = _
      rw [hw8, addr_add, Nat.zero_add, blk_cell (heap_alloc_new w7 (.cells dn.cells 106))]
      unfold DN.list at hu
      rw [← hu, Array.getElem?_toList])
     have HX8 : Hid (EvB w8.drew X D.e) := Lib.hid ((hb8.block X (blk_lt HX7.out)).trans HX7.out)
     have HS8 : Hid ((fun w' : World => w'.cell? ⟨A, 3, none⟩ = some (.int .i64 st.ck) ∧ w'.cell? ⟨X, 0, none⟩ = some (.int .i64 D.e.k) ∧ w'.cell? ⟨X, 1, none⟩ = some (.int .i64 D.e.f) ∧ w'.cell? ⟨X, 2, none⟩ = some (.int .i64 D.e.t) ∧ w'.cell? ⟨X, 3, none⟩ = some (.int .i64 D.e.a) ∧ w'.cell? ⟨X, 4, none⟩ = some (.int .i64 D.e.n) ∧ w'.cell? ⟨X, 5, none⟩ = some (.int .i64 D.e.i) ∧ w'.cell? ⟨X, 6, none⟩ = some (.int .i64 D.e.d) ∧ w'.cell? ⟨X, 7, none⟩ = some (.string D.e.h) ∧ w'.cell? ⟨X, 8, none⟩ = some (.string D.e.s)) w8.drew) := Lib.hid ⟨HD8.out.cells.2.2.1, HX8.out.all⟩
     have c48 : w8.cell? ⟨A, 4, none⟩ = some (.slice lo ln lc) := by have h := HD8.out.cells.2.2.2; rw [HLN.out.1] at h; exact h
     have HW8 := Lib.hid hw8
     have HB8 := Lib.hid hb8
     rw [hdn] at HW8
     unfold DN.cells at HW8
     dsimp only at HW8
     have hw8' := HW8.out
     rw [hw8'] at c48
     clear hw8 hw8' hb8 hdn hln hc hlc hlm
     have HLX := HLN.out.2
     go_upto_region 9 with fail
     refine wp_region_held_drew (S := fun w' => w'.cell? ⟨A, 3, none⟩ = some (.int .i64 st.ck) ∧ w'.cell? ⟨X, 0, none⟩ = some (.int .i64 D.e.k) ∧ w'.cell? ⟨X, 1, none⟩ = some (.int .i64 D.e.f) ∧ w'.cell? ⟨X, 2, none⟩ = some (.int .i64 D.e.t) ∧ w'.cell? ⟨X, 3, none⟩ = some (.int .i64 D.e.a) ∧ w'.cell? ⟨X, 4, none⟩ = some (.int .i64 D.e.n) ∧ w'.cell? ⟨X, 5, none⟩ = some (.int .i64 D.e.i) ∧ w'.cell? ⟨X, 6, none⟩ = some (.int .i64 D.e.d) ∧ w'.cell? ⟨X, 7, none⟩ = some (.string D.e.h) ∧ w'.cell? ⟨X, 8, none⟩ = some (.string D.e.s)) (by kernel_rfl) ?_ (fun hHeld => ?_)
     · exact ⟨c3, x0, x1, x2, x3, x4, x5, x6, x7, x8⟩
     refine tk 0 52 ?_
     simp only [lz]
     refine tk 1 53 ?_
     simp only [lz]
     refine tk 2 54 ?_
     simp only [lz]
     refine tk 3 55 ?_
     simp only [lz]
     refine tk 5 57 ?_
     simp only [lz]
     refine tk 6 58 ?_
     simp only [lz]
     refine tk 7 59 ?_
     simp only [lz]
     refine tk 8 60 ?_
     simp only [lz]
     refine tk 9 61 ?_
     simp only [lz]
     refine tk 10 62 ?_
     simp only [lz]
     refine tk 11 63 ?_
     simp only [lz]
     refine wpAnyH_ready (rs := [4, 12]) (by kernel_rfl) (by simp) ?_
     refine AllReadyH.cons rfl (fun K hK => ?_) (AllReadyH.cons rfl (fun K hK => ?_) (AllReadyH.nil))
     · skip
       go_simp
       skip
       go_wp2_with fail
       refine hK.out _ _ ?_ (fun hHeld => ?_)
       · first | exact ⟨c3, x0, x1, x2, x3, x4, x5, x6, x7, x8⟩ | (rw [← HW8.out]; exact HS8.out)
       clear hK K
       try simp only [Act.put, lg]
       try simp only [lz]
       refine wpAnyH_ready (rs := [12]) (by kernel_rfl) (by simp) ?_
       refine AllReadyH.cons rfl (fun K hK => ?_) AllReadyH.nil
       go_simp
       skip
       go_wp2_with fail
       refine hK.out _ _ ?_ (fun hHeld => ?_)
       · (rw [← HW8.out]; exact HS8.out)
       clear hK K
       try simp only [Act.put, lg]
       try simp only [lz]
       refine wpAnyH_ready (rs := [13]) (by kernel_rfl) (by simp) ?_
       refine AllReadyH.cons rfl (fun K hK => ?_) AllReadyH.nil
       rw [← HW8.out]
       refine step_append_any (by rfl) _ _ 83 (by rfl) 106 i0 _ 11 104 Tryz.underlying83 hi0 hz0 hz1 hz2 rfl (by decide) (.slice lo ln lc) ln _ (by rfl) HR8.out (some ⟨w7.heap.size, 0, none⟩) 1 1 dn.list (by rfl) (by rfl) (fun e => by cases e) HNW.out (dn_one dn) (by unfold maxLen; omega) (by omega) ?_
       intro ao3 cap3 w9 hown hgrow hat hnn
       have HO9 : Hid (w9.ownsRow 0 106 11 (.slice ao3 (ln + 1) cap3) (ln + 1) ((st.es ++ [dn]).flatMap DN.list)) := Lib.hid (by
        rw [List.flatMap_append]
        simp only [List.flatMap_cons, List.flatMap_nil, List.append_nil]
        exact hown)
       have HK9 : Hid (Keeps (fun i => (Value.slice lo st.es.length lc).ownBlock = some i) w8.drew w9) := Lib.hid ((Keeps.refl _ w8.drew).grown hgrow (fun i hi => Or.inl (by rw [HLN.out.1]; exact hi)))
       have HA9 : Hid (∀ g, (Value.slice ao3 (ln + 1) cap3).ownBlock = some g → (Value.slice lo st.es.length lc).ownBlock = some g ∨ w8.heap.size ≤ g) := Lib.hid (fun g hg => by
        rw [HLN.out.1]
        rcases hat g hg with h | h
        · exact Or.inl h
        · exact Or.inr (by rw [h]; exact Nat.le_refl _))
       have HA9b : Hid (w9.heap[A]? = w8.heap[A]?) := Lib.hid (HK9.out.block A (blk_lt HD8.out.box) (fun e => HD8.out.vA A e rfl))
       have HX9 : Hid (EvB w9 X D.e) := Lib.hid ((HK9.out.block X (blk_lt HX8.out) (fun e => (HNY.out X (Or.inr (Or.inr e))).2 rfl)).trans HX8.out)
       have HS9 : Hid ((fun w' : World => w'.cell? ⟨A, 3, none⟩ = some (.int .i64 st.ck) ∧ w'.cell? ⟨X, 0, none⟩ = some (.int .i64 D.e.k) ∧ w'.cell? ⟨X, 1, none⟩ = some (.int .i64 D.e.f) ∧ w'.cell? ⟨X, 2, none⟩ = some (.int .i64 D.e.t) ∧ w'.cell? ⟨X, 3, none⟩ = some (.int .i64 D.e.a) ∧ w'.cell? ⟨X, 4, none⟩ = some (.int .i64 D.e.n) ∧ w'.cell? ⟨X, 5, none⟩ = some (.int .i64 D.e.i) ∧ w'.cell? ⟨X, 6, none⟩ = some (.int .i64 D.e.d) ∧ w'.cell? ⟨X, 7, none⟩ = some (.string D.e.h) ∧ w'.cell? ⟨X, 8, none⟩ = some (.string D.e.s)) w9) := Lib.hid ⟨(World.cell?_of_block (a := ⟨A, 3, none⟩) HA9b.out).trans HD8.out.cells.2.2.1, HX9.out.all⟩
       have f49 : w9.frozen? ⟨A, 4, none⟩ = false := blk_frozen (HA9b.out.trans HD8.out.box) 4
       have c49 : w9.cell? ⟨A, 4, none⟩ = some (.slice lo st.es.length lc) := blk_cell (HA9b.out.trans HD8.out.box) 4
       have HX10 : Hid (EvB (w9.setCell ⟨A, 4, none⟩ (.slice ao3 (ln + 1) cap3)) X D.e) := Lib.hid (HX9.out.keep ((Keeps.refl (fun i => i = A) w9).setCell (p := ⟨A, 4, none⟩) (Or.inl rfl) _) (fun e => (HNY.out X (Or.inr (Or.inl e))).2 rfl))
       have HS10 : Hid ((fun w' : World => w'.cell? ⟨A, 3, none⟩ = some (.int .i64 st.ck) ∧ w'.cell? ⟨X, 0, none⟩ = some (.int .i64 D.e.k) ∧ w'.cell? ⟨X, 1, none⟩ = some (.int .i64 D.e.f) ∧ w'.cell? ⟨X, 2, none⟩ = some (.int .i64 D.e.t) ∧ w'.cell? ⟨X, 3, none⟩ = some (.int .i64 D.e.a) ∧ w'.cell? ⟨X, 4, none⟩ = some (.int .i64 D.e.n) ∧ w'.cell? ⟨X, 5, none⟩ = some (.int .i64 D.e.i) ∧ w'.cell? ⟨X, 6, none⟩ = some (.int .i64 D.e.d) ∧ w'.cell? ⟨X, 7, none⟩ = some (.string D.e.h) ∧ w'.cell? ⟨X, 8, none⟩ = some (.string D.e.s)) (w9.setCell ⟨A, 4, none⟩ (.slice ao3 (ln + 1) cap3))) := Lib.hid ⟨by rw [World.cell?_setCell_other _ ⟨A, 4, none⟩ ⟨A, 3, none⟩ _ (by simp)]; exact (World.cell?_of_block (a := ⟨A, 3, none⟩) HA9b.out).trans HD8.out.cells.2.2.1, HX10.out.all⟩
       clear hown hgrow hat hnn
       go_wp2_with fail
       refine hK.out _ _ ?_ (fun hHeld => ?_)
       · exact HS9.out
       clear hK K
       try simp only [Act.put, lg]
       try simp only [lz]
       refine tk 14 66 ?_
       simp only [lz]
       refine tk 15 67 ?_
       simp only [lz]
       refine wpAnyH_ready (rs := [16]) (by kernel_rfl) (by simp) ?_
       refine AllReadyH.cons rfl (fun K hK => ?_) AllReadyH.nil
       go_simp
       skip
       go_wp2_with fail
       refine hK.out _ _ ?_ (fun hHeld => ?_)
       · exact HS10.out
       clear hK K
       try simp only [Act.put, lg]
       try simp only [lz]
       refine wpAnyH_done (by kernel_rfl) ?_ _
       go_wp2_with fail
       go_meet
       case rel =>
        have hlt := HD8.out.grow dn (by rw [HLN.out.1]; exact HO9.out) HK9.out HA9.out
        dsimp only at hlt
        have hS8 : Keeps S4 w4 (w9.setCell ⟨A, 4, none⟩ (.slice ao3 (ln + 1) cap3)) := by
         have h1 := (HK7.out.trans (Keeps.of_below (S := fun _ => False) (HB8.out.trans (below_drew w8 |>.mono HB8.out.size))) (fun i f => f.elim)).trans HK9.out (fun i hi => HN7.out i (Or.inr (Or.inr hi)))
         exact h1.setCell (p := ⟨A, 4, none⟩) (by rcases HN7.out A (Or.inr (Or.inl rfl)) with e | e; · exact Or.inl e
                                                  · exact Or.inr e) _
        have hYl : Y < w7.heap.size := blk_lt HY7.out
        have h78 := HB8.out.size
        have h47 := HK7.out.size
        have hnY : ∀ i, (Sb6 i ∨ i = A ∨ (Value.slice ao3 (ln + 1) cap3).ownBlock = some i) → (S4 i ∨ w4.heap.size ≤ i) ∧ i ≠ Y := by
         intro i hi
         rcases hi with e | e | e
         · exact ⟨HN7.out i (Or.inl e), (HNY.out i (Or.inl e)).1⟩
         · exact ⟨HN7.out i (Or.inr (Or.inl e)), (HNY.out i (Or.inr (Or.inl e))).1⟩
         · rcases HA9.out i e with e | e
           · exact ⟨HN7.out i (Or.inr (Or.inr e)), (HNY.out i (Or.inr (Or.inr e))).1⟩
           · exact ⟨Or.inr (by omega), by omega⟩
        refine ⟨fun i => Sb6 i ∨ i = A ∨ (Value.slice ao3 (ln + 1) cap3).ownBlock = some i, ⟨Sb6, .slice ao3 (ln + 1) cap3, ?_, HI2.out, fun i => Iff.rfl⟩, hS8, fun i hi => (hnY i hi).1, ?_, fun h => (hnY Y h).2 rfl⟩
        · rw [HE.out]; exact hlt
        · refine (HY7.out.keep (Keeps.of_below (S := fun _ => False) (HB8.out.trans (below_drew w8 |>.mono HB8.out.size))) (fun f => f)).keep HK9.out (fun e => (HNY.out Y (Or.inr (Or.inr e))).1 rfl) |>.keep ((Keeps.refl (fun i => i = A) w9).setCell (p := ⟨A, 4, none⟩) (Or.inl rfl) _) (fun e => (HNY.out Y (Or.inr (Or.inl e))).1 rfl)
     · skip
       go_simp
       skip
       go_wp2_with fail
       refine hK.out _ _ ?_ (fun hHeld => ?_)
       · (rw [← HW8.out]; exact HS8.out)
       clear hK K
       try simp only [Act.put, lg]
       try simp only [lz]
       refine wpAnyH_ready (rs := [4]) (by kernel_rfl) (by simp) ?_
       refine AllReadyH.cons rfl (fun K hK => ?_) AllReadyH.nil
       go_simp
       skip
       go_wp2_with fail
       refine hK.out _ _ ?_ (fun hHeld => ?_)
       · first | exact ⟨c3, x0, x1, x2, x3, x4, x5, x6, x7, x8⟩ | (rw [← HW8.out]; exact HS8.out)
       clear hK K
       try simp only [Act.put, lg]
       try simp only [lz]
       refine wpAnyH_ready (rs := [13]) (by kernel_rfl) (by simp) ?_
       refine AllReadyH.cons rfl (fun K hK => ?_) AllReadyH.nil
       rw [← HW8.out]
       refine step_append_any (by rfl) _ _ 83 (by rfl) 106 i0 _ 11 104 Tryz.underlying83 hi0 hz0 hz1 hz2 rfl (by decide) (.slice lo ln lc) ln _ (by rfl) HR8.out (some ⟨w7.heap.size, 0, none⟩) 1 1 dn.list (by rfl) (by rfl) (fun e => by cases e) HNW.out (dn_one dn) (by unfold maxLen; omega) (by omega) ?_
       intro ao3 cap3 w9 hown hgrow hat hnn
       have HO9 : Hid (w9.ownsRow 0 106 11 (.slice ao3 (ln + 1) cap3) (ln + 1) ((st.es ++ [dn]).flatMap DN.list)) := Lib.hid (by
        rw [List.flatMap_append]
        simp only [List.flatMap_cons, List.flatMap_nil, List.append_nil]
        exact hown)
       have HK9 : Hid (Keeps (fun i => (Value.slice lo st.es.length lc).ownBlock = some i) w8.drew w9) := Lib.hid ((Keeps.refl _ w8.drew).grown hgrow (fun i hi => Or.inl (by rw [HLN.out.1]; exact hi)))
       have HA9 : Hid (∀ g, (Value.slice ao3 (ln + 1) cap3).ownBlock = some g → (Value.slice lo st.es.length lc).ownBlock = some g ∨ w8.heap.size ≤ g) := Lib.hid (fun g hg => by
        rw [HLN.out.1]
        rcases hat g hg with h | h
        · exact Or.inl h
        · exact Or.inr (by rw [h]; exact Nat.le_refl _))
       have HA9b : Hid (w9.heap[A]? = w8.heap[A]?) := Lib.hid (HK9.out.block A (blk_lt HD8.out.box) (fun e => HD8.out.vA A e rfl))
       have HX9 : Hid (EvB w9 X D.e) := Lib.hid ((HK9.out.block X (blk_lt HX8.out) (fun e => (HNY.out X (Or.inr (Or.inr e))).2 rfl)).trans HX8.out)
       have HS9 : Hid ((fun w' : World => w'.cell? ⟨A, 3, none⟩ = some (.int .i64 st.ck) ∧ w'.cell? ⟨X, 0, none⟩ = some (.int .i64 D.e.k) ∧ w'.cell? ⟨X, 1, none⟩ = some (.int .i64 D.e.f) ∧ w'.cell? ⟨X, 2, none⟩ = some (.int .i64 D.e.t) ∧ w'.cell? ⟨X, 3, none⟩ = some (.int .i64 D.e.a) ∧ w'.cell? ⟨X, 4, none⟩ = some (.int .i64 D.e.n) ∧ w'.cell? ⟨X, 5, none⟩ = some (.int .i64 D.e.i) ∧ w'.cell? ⟨X, 6, none⟩ = some (.int .i64 D.e.d) ∧ w'.cell? ⟨X, 7, none⟩ = some (.string D.e.h) ∧ w'.cell? ⟨X, 8, none⟩ = some (.string D.e.s)) w9) := Lib.hid ⟨(World.cell?_of_block (a := ⟨A, 3, none⟩) HA9b.out).trans HD8.out.cells.2.2.1, HX9.out.all⟩
       have f49 : w9.frozen? ⟨A, 4, none⟩ = false := blk_frozen (HA9b.out.trans HD8.out.box) 4
       have c49 : w9.cell? ⟨A, 4, none⟩ = some (.slice lo st.es.length lc) := blk_cell (HA9b.out.trans HD8.out.box) 4
       have HX10 : Hid (EvB (w9.setCell ⟨A, 4, none⟩ (.slice ao3 (ln + 1) cap3)) X D.e) := Lib.hid (HX9.out.keep ((Keeps.refl (fun i => i = A) w9).setCell (p := ⟨A, 4, none⟩) (Or.inl rfl) _) (fun e => (HNY.out X (Or.inr (Or.inl e))).2 rfl))
       have HS10 : Hid ((fun w' : World => w'.cell? ⟨A, 3, none⟩ = some (.int .i64 st.ck) ∧ w'.cell? ⟨X, 0, none⟩ = some (.int .i64 D.e.k) ∧ w'.cell? ⟨X, 1, none⟩ = some (.int .i64 D.e.f) ∧ w'.cell? ⟨X, 2, none⟩ = some (.int .i64 D.e.t) ∧ w'.cell? ⟨X, 3, none⟩ = some (.int .i64 D.e.a) ∧ w'.cell? ⟨X, 4, none⟩ = some (.int .i64 D.e.n) ∧ w'.cell? ⟨X, 5, none⟩ = some (.int .i64 D.e.i) ∧ w'.cell? ⟨X, 6, none⟩ = some (.int .i64 D.e.d) ∧ w'.cell? ⟨X, 7, none⟩ = some (.string D.e.h) ∧ w'.cell? ⟨X, 8, none⟩ = some (.string D.e.s)) (w9.setCell ⟨A, 4, none⟩ (.slice ao3 (ln + 1) cap3))) := Lib.hid ⟨by rw [World.cell?_setCell_other _ ⟨A, 4, none⟩ ⟨A, 3, none⟩ _ (by simp)]; exact (World.cell?_of_block (a := ⟨A, 3, none⟩) HA9b.out).trans HD8.out.cells.2.2.1, HX10.out.all⟩
       clear hown hgrow hat hnn
       go_wp2_with fail
       refine hK.out _ _ ?_ (fun hHeld => ?_)
       · exact HS9.out
       clear hK K
       try simp only [Act.put, lg]
       try simp only [lz]
       refine tk 14 66 ?_
       simp only [lz]
       refine tk 15 67 ?_
       simp only [lz]
       refine wpAnyH_ready (rs := [16]) (by kernel_rfl) (by simp) ?_
       refine AllReadyH.cons rfl (fun K hK => ?_) AllReadyH.nil
       go_simp
       skip
       go_wp2_with fail
       refine hK.out _ _ ?_ (fun hHeld => ?_)
       · exact HS10.out
       clear hK K
       try simp only [Act.put, lg]
       try simp only [lz]
       refine wpAnyH_done (by kernel_rfl) ?_ _
       go_wp2_with fail
       go_meet
       case rel =>
        have hlt := HD8.out.grow dn (by rw [HLN.out.1]; exact HO9.out) HK9.out HA9.out
        dsimp only at hlt
        have hS8 : Keeps S4 w4 (w9.setCell ⟨A, 4, none⟩ (.slice ao3 (ln + 1) cap3)) := by
         have h1 := (HK7.out.trans (Keeps.of_below (S := fun _ => False) (HB8.out.trans (below_drew w8 |>.mono HB8.out.size))) (fun i f => f.elim)).trans HK9.out (fun i hi => HN7.out i (Or.inr (Or.inr hi)))
         exact h1.setCell (p := ⟨A, 4, none⟩) (by rcases HN7.out A (Or.inr (Or.inl rfl)) with e | e; · exact Or.inl e
                                                  · exact Or.inr e) _
        have hYl : Y < w7.heap.size := blk_lt HY7.out
        have h78 := HB8.out.size
        have h47 := HK7.out.size
        have hnY : ∀ i, (Sb6 i ∨ i = A ∨ (Value.slice ao3 (ln + 1) cap3).ownBlock = some i) → (S4 i ∨ w4.heap.size ≤ i) ∧ i ≠ Y := by
         intro i hi
         rcases hi with e | e | e
         · exact ⟨HN7.out i (Or.inl e), (HNY.out i (Or.inl e)).1⟩
         · exact ⟨HN7.out i (Or.inr (Or.inl e)), (HNY.out i (Or.inr (Or.inl e))).1⟩
         · rcases HA9.out i e with e | e
           · exact ⟨HN7.out i (Or.inr (Or.inr e)), (HNY.out i (Or.inr (Or.inr e))).1⟩
           · exact ⟨Or.inr (by omega), by omega⟩
        refine ⟨fun i => Sb6 i ∨ i = A ∨ (Value.slice ao3 (ln + 1) cap3).ownBlock = some i, ⟨Sb6, .slice ao3 (ln + 1) cap3, ?_, HI2.out, fun i => Iff.rfl⟩, hS8, fun i hi => (hnY i hi).1, ?_, fun h => (hnY Y h).2 rfl⟩
        · rw [HE.out]; exact hlt
        · refine (HY7.out.keep (Keeps.of_below (S := fun _ => False) (HB8.out.trans (below_drew w8 |>.mono HB8.out.size))) (fun f => f)).keep HK9.out (fun e => (HNY.out Y (Or.inr (Or.inr e))).1 rfl) |>.keep ((Keeps.refl (fun i => i = A) w9).setCell (p := ⟨A, 4, none⟩) (Or.inl rfl) _) (fun e => (HNY.out Y (Or.inr (Or.inl e))).1 rfl)
    case rest =>
    obtain ⟨S8, hd8, hk8, hn8, hy8, hny8⟩ := hcut
    rename World => w8
    have HA8 := Lib.hid (HA5.out.turn hd8 hk8 hn8 (by rw [HST.out.1, stepF_ck]))
    have HY8 := Lib.hid hy8
    clear hd8 hk8 hn8 hy8 hny8 HK7 HN7 HNY HL6 HYX HX7 HD7 HA5 HS5 y0 HY7 HI5 HI2 HR4 HRR HRS
    have y0 := blk_cell HY8.out 0
    have y1 := blk_cell HY8.out 1
    have n2 := blk_cell HA8.out.nb 2
    have g2 := blk_frozen HA8.out.nb 2
    simp only [lq] at y0 y1 n2
    obtain ⟨j0, hj0, hu0, hu1, hu2⟩ := info_parts Try_infoRp
    have hb9 : Below w8.heap.size w8 (w8.alloc (.cells #[.int .i64 D.c, .int .i64 D.i] 50)) := (Below.refl _ _).alloc (Nat.le_refl _) _
    have HA9 := Lib.hid (HA8.out.below hb9)
    have HPA : Hid ((w8.alloc (.cells #[.int .i64 D.c, .int .i64 D.i] 50)).ownsRow 0 50 2 (.slice ao k c) k (ys.flatMap RP.list)) := Lib.hid (by have h := HA9.out.row; rw [HYL.out] at h; exact h)
    have HNW : Hid (∀ ad, some (⟨w8.heap.size, 0, none⟩ : Addr) = some ad → ∀ j u, (RP.list (D.c, D.i))[j]? = some u → (w8.alloc (.cells #[.int .i64 D.c, .int .i64 D.i] 50)).cell? (ad.add j) = some u) := Lib.hid (fun ad had => by
     cases had
     intro j u hu
     rw [addr_add, Nat.zero_add, blk_cell (heap_alloc_new w8 (.cells #[.int .i64 D.c, .int .i64 D.i] 50))]
     unfold RP.list at hu
     rw [← hu, List.getElem?_toArray])
    have HRO := Lib.hid (rp_one (D.c, D.i))
    have HK64 := Lib.hid hK64
    clear hb9 HA8
    go_wp2_with (at_builtin; refine wpList_append_any rfl _ _ 34 rfl 50 j0 _ 2 16 Tryz.underlying34 hj0 hu0 hu1 hu2 rfl (by decide) (.slice ao k c) k _ rfl HPA.out (some ⟨w8.heap.size, 0, none⟩) 1 1 (RP.list (D.c, D.i)) rfl ?q1 ?q2 ?q3 ?q4 ?q5 ?q6 ?_)
    case q1 => rfl
    case q2 => intro e; cases e
    case q3 => exact HNW.out
    case q4 => exact HRO.out
    case q5 => have := HKL.out; have := HK64.out; unfold maxLen; omega
    case q6 => have := HKL.out; have := HK64.out; omega
    intro ao3 cap3 w10 hown hgrow hat hnn
    have HSZ9 : Hid ((w8.alloc (.cells #[.int .i64 D.c, .int .i64 D.i] 50)).heap.size = w8.heap.size + 1) := Lib.hid (by simp)
    generalize w8.alloc (.cells #[.int .i64 D.c, .int .i64 D.i] 50) = w9 at *
    have HK10 : Hid (Keeps (fun i => (Value.slice ao k c).ownBlock = some i) w9 w10) := Lib.hid ((Keeps.refl _ w9).grown hgrow (fun i hi => Or.inl hi))
    have HO10 : Hid (w10.ownsRow 0 50 2 (.slice ao3 (k + 1) cap3) (ys.length + 1) ((ys ++ [(D.c, D.i)]).flatMap RP.list)) := Lib.hid (by
     rw [HYL.out, List.flatMap_append]
     simp only [List.flatMap_cons, List.flatMap_nil, List.append_nil]
     exact hown)
    have HAT : Hid (∀ g, (Value.slice ao3 (k + 1) cap3).ownBlock = some g → (Value.slice ao k c).ownBlock = some g ∨ w9.heap.size ≤ g) := Lib.hid (fun g hg => by
     rcases hat g hg with h | h
     · exact Or.inl h
     · exact Or.inr (by have := HSZ9.out; omega))
    have HNB : Hid (w10.heap[N]? = w9.heap[N]?) := Lib.hid (HK10.out.block N (blk_lt HA9.out.nb) (fun e => (HA9.out.nY N e).1 rfl))
    clear hown hgrow hat hnn n2 g2
    have n2 : w10.cell? ⟨N, 2, none⟩ = some (.slice ao k c) := blk_cell (HNB.out.trans HA9.out.nb) 2
    have g2 : w10.frozen? ⟨N, 2, none⟩ = false := blk_frozen (HNB.out.trans HA9.out.nb) 2
    have HFI := Lib.hid (HA9.out.reply (D.c, D.i) HWW.out HO10.out HK10.out HAT.out)
    have HY2 : Hid (ys2 = ys ++ [(D.c, D.i)]) := Lib.hid (by rw [HST.out.2]; unfold repF; rw [← HDD.out])
    have HMS : Hid (K - (k + 1) < K - k) := Lib.hid (by have := HKL.out; omega)
    clear hj0 hu0 hu1 hu2
    go_wp2
    go_roundw
    case rel => exact ⟨k + 1, HKL.out, by go_num, S8, ao3, cap3, by rw [HST2.out, HYS2.out, HY2.out]; exact HFI.out⟩
    case measure => simpa [intOf] using HMS.out
  obtain rfl : k = K := by omega
  have HTK : Hid (rs.take k = rs.take 64) := Lib.hid (by
   have h1 := HK.out
   have h2 := HRN.out
   by_cases hr : rn ≤ 64
   · rw [List.take_of_length_le (by omega), List.take_of_length_le (by omega)]
   · have : k = 64 := by omega
     rw [this])
  rw [HTK.out] at HA4
  rw [← HAP.out, ← HAR.out] at HA4
  have HYL : Hid (YF.length = k) := Lib.hid (by rw [HAR.out, repsF_len, ← HTK.out, List.length_take]; have := HK.out; have := HRN.out; omega)
  have HIF := Lib.hid HA4.out.ld.inv
  clear hlt hk HAP HAR HTK HS1 HI1
  obtain ⟨Sb4, v4, hd4, hi4, hS4⟩ := HA4.out.ld.dat
  obtain ⟨lo, lc, rfl, _, _⟩ := own_shape hd4.row
  have HD4 := Lib.hid hd4
  have HS4 := Lib.hid hS4
  obtain ⟨ln, hln⟩ : ∃ ln, ln = SF.es.length := ⟨_, rfl⟩
  have HLN : Hid (SF.es.length = ln ∧ ln ≤ 400) := Lib.hid ⟨hln.symm, by rw [hln]; exact hi4.len.2.1⟩
  obtain ⟨_, _, c3, c4⟩ := hd4.cells
  rw [← hln] at c4
  have hYr : ApAt S W w wr n m E SF T A B tb q N Z Q seen ro rn rc YF (.slice ao YF.length c) S4 := by rw [HYL.out]; exact HA4.out
  have HE := Lib.hid (hYr.end_ HWW.out)
  rw [← hln] at HE
  have n1 := blk_cell HA4.out.nb 1
  have g1 := blk_frozen HA4.out.nb 1
  have q0 := blk_cell HA4.out.qb 0
  simp only [lq] at n1 q0
  have HNQ : Hid (N ≠ Q ∧ Q < wr.heap.size) := Lib.hid ⟨HA4.out.ap.2.2.2.2.1, blk_lt HA4.out.qb⟩
  clear hd4 hi4 hS4 hln hYr
  go_upto_region 13 with fail
  obtain ⟨w5, hw5⟩ : ∃ w5, w5 = wr.setCell ⟨N, 1, none⟩ (.int .i64 (ln : Int)) := ⟨_, rfl⟩
  rw [← hw5]
  have q05 : w5.cell? ⟨Q, 0, none⟩ = some (.int .i64 seen) := by
   rw [hw5, World.cell?_setCell_other _ ⟨N, 1, none⟩ ⟨Q, 0, none⟩ _ (by first | (simp [HNQ.out.1]; done) | (simp; exact fun e => absurd e.symm HNQ.out.1))]
   exact q0
  have HD5 : Hid (LDat Sb4 W w5 n m E SF T A B tb q (.slice lo SF.es.length lc)) := Lib.hid (by
   rw [hw5]
   exact HD4.out.keep ((Keeps.refl (fun i => i = N) wr).setCell (p := ⟨N, 1, none⟩) (Or.inl rfl) _) (fun i e hh => HA4.out.ap.1 ((HS4.out N).2 (e ▸ hh))) (fun i e => by have := HA4.out.oN; have := HWW.out; omega))
  rw [← hw5] at HE
  have HQ5 : Hid (Q < w5.heap.size) := Lib.hid (by rw [hw5]; simpa using HNQ.out.2)
  clear hw5 c3 c4 n1 g1 q0 HA4 HD4
  have m1 : w5.cell? ⟨N, 1, none⟩ = some (.int .i64 (ln : Int)) := (blk_cell HE.out.nb 1).trans (by rw [HLN.out.1]; rfl)
  by_cases hs0 : seen < 0
  · have HDR : Hid (dropF SF.evs seen = []) := Lib.hid (by unfold dropF; rw [if_neg (by omega)])
    have m0 := blk_cell HE.out.nb 0
    have m1 := blk_cell HE.out.nb 1
    have m2 := blk_cell HE.out.nb 2
    have m3 := blk_cell HE.out.nb 3
    obtain ⟨u0, u1, u2, u3, hz⟩ := HE.out.zb
    have z0 := blk_cell hz 0
    have z1 := blk_cell hz 1
    have z2 := blk_cell hz 2
    have z3 := blk_cell hz 3
    have y0 := blk_frozen hz 0
    have y1 := blk_frozen hz 1
    have y2 := blk_frozen hz 2
    have y3 := blk_frozen hz 3
    simp only [lq] at m0 m1 m2 m3 z0 z1 z2 z3
    rw [HLN.out.1] at m1
    have HZ := Lib.hid hz
    clear hz
    go_wp2_with fail
    obtain ⟨wf, hwf⟩ : ∃ wf, wf = fillA w5 Z (.int .i64 SF.ck) (.int .i64 (ln : Int)) (.slice ao YF.length c) (.slice none 0 0) := ⟨_, rfl⟩
    have HF := Lib.hid (HE.out.fin (w' := w5) (.int .i64 SF.ck) (.int .i64 (ln : Int)) (.slice ao YF.length c) (.slice none 0 0) (Or.inr rfl))
    have HZF := Lib.hid (fillA_box HZ.out (.int .i64 SF.ck) (.int .i64 (ln : Int)) (.slice ao YF.length c) (.slice none 0 0))
    rw [← hwf] at HF HZF
    unfold fillA at hwf
    rw [← hwf]
    clear hwf
    have k0 := blk_cell HZF.out 0
    have k1 := blk_cell HZF.out 1
    have k2 := blk_cell HZF.out 2
    have k3 := blk_cell HZF.out 3
    simp only [lq] at k0 k1 k2 k3
    refine bodyPost_ret (v := .agg #[.int .i64 SF.ck, .int .i64 (ln : Int), .slice ao YF.length c, .slice none 0 0]) (by simp [results, Tryz.results12, go_sem, k0, k1, k2, k3]) rfl ?_
    have hF := HF.out
    rw [HLN.out.1] at hF
    rw [HDR.out]
    exact hF
  by_cases hs1 : (ln : Int) < seen
  · have HDR : Hid (dropF SF.evs seen = []) := Lib.hid (by unfold dropF LS.evs; rw [if_neg (by rw [List.length_map, HLN.out.1]; omega)])
    have m0 := blk_cell HE.out.nb 0
    have m1 := blk_cell HE.out.nb 1
    have m2 := blk_cell HE.out.nb 2
    have m3 := blk_cell HE.out.nb 3
    obtain ⟨u0, u1, u2, u3, hz⟩ := HE.out.zb
    have z0 := blk_cell hz 0
    have z1 := blk_cell hz 1
    have z2 := blk_cell hz 2
    have z3 := blk_cell hz 3
    have y0 := blk_frozen hz 0
    have y1 := blk_frozen hz 1
    have y2 := blk_frozen hz 2
    have y3 := blk_frozen hz 3
    simp only [lq] at m0 m1 m2 m3 z0 z1 z2 z3
    rw [HLN.out.1] at m1
    have HZ := Lib.hid hz
    clear hz
    go_wp2_with fail
    obtain ⟨wf, hwf⟩ : ∃ wf, wf = fillA w5 Z (.int .i64 SF.ck) (.int .i64 (ln : Int)) (.slice ao YF.length c) (.slice none 0 0) := ⟨_, rfl⟩
    have HF := Lib.hid (HE.out.fin (w' := w5) (.int .i64 SF.ck) (.int .i64 (ln : Int)) (.slice ao YF.length c) (.slice none 0 0) (Or.inr rfl))
    have HZF := Lib.hid (fillA_box HZ.out (.int .i64 SF.ck) (.int .i64 (ln : Int)) (.slice ao YF.length c) (.slice none 0 0))
    rw [← hwf] at HF HZF
    unfold fillA at hwf
    rw [← hwf]
    clear hwf
    have k0 := blk_cell HZF.out 0
    have k1 := blk_cell HZF.out 1
    have k2 := blk_cell HZF.out 2
    have k3 := blk_cell HZF.out 3
    simp only [lq] at k0 k1 k2 k3
    refine bodyPost_ret (v := .agg #[.int .i64 SF.ck, .int .i64 (ln : Int), .slice ao YF.length c, .slice none 0 0]) (by simp [results, Tryz.results12, go_sem, k0, k1, k2, k3]) rfl ?_
    have hF := HF.out
    rw [HLN.out.1] at hF
    rw [HDR.out]
    exact hF
  obtain ⟨sn, rfl⟩ : ∃ sn : Nat, seen = (sn : Int) := ⟨seen.toNat, by omega⟩
  have hsn : sn ≤ ln := by omega
  have HDR : Hid (dropF SF.evs (sn : Int) = SF.evs.drop sn) := Lib.hid (by unfold dropF LS.evs; rw [if_pos (by rw [List.length_map, HLN.out.1]; omega), Int.toNat_natCast])
  have HEVS := Lib.hid (ledger_events (HD5.out.below (below_drew _)) (by have := HLN.out; omega))
  rw [HLN.out.1] at HEVS
  have HSN : Hid (sn ≤ ln ∧ SF.evs.length = ln) := Lib.hid ⟨hsn, by unfold LS.evs; rw [List.length_map]; exact HLN.out.1⟩
  have n3 := blk_cell HE.out.nb 3
  have g3 := blk_frozen HE.out.nb 3
  simp only [lq] at n3
  have hse : ∀ (ao : Option Addr) (c : Nat) (w : World), (Instr.slice 35 (.slice ao ln c) (some (.int .i64 (sn : Int))) none none).run Tryz.prog w = .ok (.slice (slcE ao sn c) (ln - sn) (c - sn)) w := fun ao c w => slice_ev ao ln c sn hsn w
  clear hsn
  go_upto_region 14 with fail
  refine wp_region_held_drew (S := fun w' => w'.cell? ⟨Q, 0, none⟩ = some (.int .i64 (sn : Int))) (by kernel_rfl) ?_ (fun hHeld => ?_)
  · exact q05
  refine tk 0 91 ?_
  simp only [lz]
  refine tk 2 93 ?_
  simp only [lz]
  refine tk 3 94 ?_
  simp only [lz]
  refine wpAnyH_ready (rs := [1]) (by kernel_rfl) (by simp) ?_
  refine AllReadyH.cons rfl (fun K hK => ?_) AllReadyH.nil
  go_simp
  refine HEVS.out.mono ?_
  rintro e w6 ⟨ea, ec, rfl, hrow, hb, hnew⟩
  have hb := below_undrew hb
  have HROW := Lib.hid hrow
  have HNEW := Lib.hid hnew
  have HE6 := Lib.hid (HE.out.below hb)
  have q06 : w6.cell? ⟨Q, 0, none⟩ = some (.int .i64 (sn : Int)) := (World.cell?_of_block (a := ⟨Q, 0, none⟩) (hb.block Q HQ5.out)).trans q05
  have n36 := blk_cell HE6.out.nb 3
  have g36 := blk_frozen HE6.out.nb 3
  simp only [lq] at n36
  have hs6 := hse ea ec
  have HW56 := Lib.hid hb.size
  clear hrow hnew hb
  go_wp2_with fail
  refine hK.out _ _ ?_ (fun hHeld => ?_)
  · exact q06
  clear hK K
  try simp only [Act.put, lg]
  try simp only [lz]
  refine tk 4 95 ?_
  simp only [lz]
  refine tk 5 96 ?_
  simp only [lz]
  refine wpAnyH_ready (rs := [6]) (by kernel_rfl) (by simp) ?_
  refine AllReadyH.cons rfl (fun K hK => ?_) AllReadyH.nil
  go_simp
  have HEV : Hid (EvsAt w6 (slcE ea sn ec) (SF.evs.drop sn)) := Lib.hid (slcE_at (evs_of_own HSN.out.2 HROW.out) sn (by have := HSN.out; omega) (by obtain ⟨_, _, h1, h2, h3⟩ := own_shape HROW.out; simp only [Value.slice.injEq] at h1; have := HSN.out; omega))
  have HQ7 : Hid ((w6.setCell ⟨N, 3, none⟩ (.slice (slcE ea sn ec) (ln - sn) (ec - sn))).cell? ⟨Q, 0, none⟩ = some (.int .i64 (sn : Int))) := Lib.hid (by
   rw [World.cell?_setCell_other _ ⟨N, 3, none⟩ ⟨Q, 0, none⟩ _ (by first | (simp [HNQ.out.1]; done) | (simp; exact fun e => absurd e.symm HNQ.out.1))]
   exact q06)
  go_wp2_with fail
  refine hK.out _ _ ?_ (fun hHeld => ?_)
  · exact HQ7.out
  clear hK K
  try simp only [Act.put, lg]
  try simp only [lz]
  refine wpAnyH_done (by kernel_rfl) ?_ _
  clear hHeld
  have HLEN : Hid ((SF.evs.drop sn).length = ln - sn) := Lib.hid (by rw [List.length_drop, HSN.out.2])
  have HE7 := Lib.hid (HE6.out.evs (ec := ec - sn) HEV.out (by
   rw [HLEN.out]
   obtain ⟨_, _, h1, h2, h3⟩ := own_shape HROW.out
   simp only [Value.slice.injEq] at h1
   obtain ⟨_, _, rfl⟩ := h1
   omega) (fun a ha => by
   have hblk : ∀ b, ea = some b → w5.heap.size ≤ b.block := fun b hb => HNEW.out b.block (own_blk HROW.out b hb)
   have hab : w5.heap.size ≤ a.block := by
    unfold slcE at ha
    split at ha
    · exact hblk a ha
    · cases hea : ea with
      | none => rw [hea] at ha; cases ha
      | some b =>
        rw [hea, Option.map_some] at ha
        cases ha
        have := hblk b hea
        have e : (b.add (sn * 9)).block = b.block := by unfold Addr.add; split <;> rfl
        rw [e]; exact this
   have hN := blk_lt HE.out.nb
   obtain ⟨_, _, _, _, hz⟩ := HE.out.zb
   have hZ := blk_lt hz
   have hw := HE.out.kp.size
   exact ⟨fun hh => by have := HE.out.ld.lt a.block hh; omega, by omega, by omega, by omega⟩))
  rw [HLEN.out] at HE7
  obtain ⟨w7, hw7⟩ : ∃ w7, w7 = w6.setCell ⟨N, 3, none⟩ (.slice (slcE ea sn ec) (ln - sn) (ec - sn)) := ⟨_, rfl⟩
  rw [← hw7] at HE7
  rw [← hw7]
  clear hw7 n3 g3 n36 g36 q05 q06 m1 hs6 hse
  have m0 := blk_cell HE7.out.nb 0
  have m1 := blk_cell HE7.out.nb 1
  have m2 := blk_cell HE7.out.nb 2
  have m3 := blk_cell HE7.out.nb 3
  obtain ⟨u0, u1, u2, u3, hz⟩ := HE7.out.zb
  have z0 := blk_cell hz 0
  have z1 := blk_cell hz 1
  have z2 := blk_cell hz 2
  have z3 := blk_cell hz 3
  have y0 := blk_frozen hz 0
  have y1 := blk_frozen hz 1
  have y2 := blk_frozen hz 2
  have y3 := blk_frozen hz 3
  simp only [lq] at m0 m1 m2 m3 z0 z1 z2 z3
  rw [HLN.out.1] at m1
  rw [HLEN.out] at m3
  have HZ := Lib.hid hz
  clear hz
  go_wp2_with fail
  obtain ⟨wf, hwf⟩ : ∃ wf, wf = fillA w7 Z (.int .i64 SF.ck) (.int .i64 (ln : Int)) (.slice ao YF.length c) (.slice (slcE ea sn ec) (ln - sn) (ec - sn)) := ⟨_, rfl⟩
  have HF := Lib.hid (HE7.out.fin (w' := w7) (.int .i64 SF.ck) (.int .i64 (ln : Int)) (.slice ao YF.length c) (.slice (slcE ea sn ec) (ln - sn) (ec - sn)) (Or.inr rfl))
  have HZF := Lib.hid (fillA_box HZ.out (.int .i64 SF.ck) (.int .i64 (ln : Int)) (.slice ao YF.length c) (.slice (slcE ea sn ec) (ln - sn) (ec - sn)))
  rw [← hwf] at HF HZF
  unfold fillA at hwf
  rw [← hwf]
  clear hwf
  have k0 := blk_cell HZF.out 0
  have k1 := blk_cell HZF.out 1
  have k2 := blk_cell HZF.out 2
  have k3 := blk_cell HZF.out 3
  simp only [lq] at k0 k1 k2 k3
  refine bodyPost_ret (v := .agg #[.int .i64 SF.ck, .int .i64 (ln : Int), .slice ao YF.length c, .slice (slcE ea sn ec) (ln - sn) (ec - sn)]) (by simp [results, Tryz.results12, go_sem, k0, k1, k2, k3]) rfl ?_
  have hF := HF.out
  rw [HLN.out.1] at hF
  rw [HLEN.out] at hF
  rw [HDR.out]
  exact hF
end
section
open Go.ChangeShapes Go.WideShapes Go.ChangeAt Go.Deep
section
variable {H : Type} {enc : TypeId × Value → H} {P : Program} {W : World}
theorem rows_of {t e : TypeId} {fs : Array Field} {ao : Option Addr} {len cap : Nat} {d : DataW H} {p : List MemPlace} (ht : P.underlying t = some (.slice e)) (he : P.underlying e = some (.struct fs))
 (hone : oneCellFields P fs = true) (hC : P.cellsOf e = fs.size) (hpos : 0 < fs.size) (h : DataW.Trod enc P W 0 (fun _ => true) true t (.slice ao len cap) d p) :
 len ≤ cap ∧ cap ≤ maxLen ∧ (len = 0 ∨ ∃ b off, ao = some ⟨b, off, none⟩ ∧ ∀ i, i < len → ∀ (j : Nat) (f : Field), fs[j]? = some f →
  ∃ v x n, W.cell? ⟨b, off + (i * fs.size + j), none⟩ = some v ∧ DataW.trod enc P W 0 (fun _ => true) true n f.type [v] = some x) := by
 obtain ⟨fuel, hf⟩ := h
 rcases open_slice ht hf with ⟨hcs, _⟩ | ⟨a, l, c, m, n, D, Pl, hcs, _, hl, hm, hmm, _, hx⟩
 · simp [Value.cells] at hcs
   obtain ⟨rfl, rfl, rfl⟩ := hcs
   exact ⟨Nat.le_refl _, Nat.zero_le _, Or.inl rfl⟩
 · simp [Value.cells] at hcs
   obtain ⟨rfl, rfl, rfl⟩ := hcs
   have hmc : m = cap := by simpa using hmm
   have key : ∀ i, i < len → ∀ (j : Nat) (f : Field), fs[j]? = some f → ∃ v x n, W.cell? (a.add (i * fs.size + j)) = some v ∧ DataW.trod enc P W 0 (fun _ => true) true n f.type [v] = some x := by
    intro i hi j f hj
    obtain ⟨cs, hc, htr⟩ := hx i (by omega)
    rw [hC] at hc
    obtain ⟨_, hcl, hat⟩ := World.cells?_some hc
    obtain ⟨ys, k, _, _, _, hyl, hfl⟩ := DataW.trod_struct he htr
    obtain ⟨ho, hk⟩ := hone_of hone j f hj
    have hjl : j < fs.size := (Array.getElem?_eq_some_iff.1 hj).1
    have h1 := hfl j f hj
    rw [ho, hk, take1_drop cs j undef (by omega)] at h1
    refine ⟨cs.getD j undef, ys[j]'(by omega), k, ?_, ?_⟩
    · rw [← Go.Deep.add_add, hat j hjl]
      simp [List.getD, List.getElem?_eq_getElem (show j < cs.length by omega)]
    · rw [h1]; exact List.getElem?_eq_getElem (by omega)
   refine ⟨hl, hm, ?_⟩
   by_cases h0 : len = 0
   · exact Or.inl h0
   · obtain ⟨v, _, _, hc0, _⟩ := key 0 (by omega) 0 fs[0] (by simp [hpos])
     obtain ⟨b, off, spot⟩ := a
     have hspot : spot = none := by
      have : (0 : Nat) * fs.size + 0 = 0 := by omega
      rw [this] at hc0
      simpa [Addr.add] using World.cell?_spot hc0
     subst hspot
     refine Or.inr ⟨b, off, rfl, fun i hi j f hj => ?_⟩
     obtain ⟨v, x, n, h1, h2⟩ := key i hi j f hj
     rw [addr_add] at h1
     exact ⟨v, x, n, h1, h2⟩
end
end
section
open Go.ChangeShapes Go.WideShapes Go.ChangeAt Go.Deep
section
variable {H : Type} {enc : TypeId × Value → H} {P : Program} {W : World}
theorem agg_of {t : TypeId} {fs : Array Field} {cs : List Value} {x : DataW H × List MemPlace} {fuel : Nat} (ht : P.underlying t = some (.struct fs)) (hone : oneCellFields P fs = true) (hC : P.cellsOf t = fs.size)
 (h : DataW.trod enc P W 0 (fun _ => true) true fuel t cs = some x) : cs.length = fs.size ∧ ∀ (j : Nat) (f : Field), fs[j]? = some f → ∃ v y n, cs[j]? = some v ∧ DataW.trod enc P W 0 (fun _ => true) true n f.type [v] = some y := by
 obtain ⟨ys, k, _, _, hl, hyl, hfl⟩ := DataW.trod_struct ht h
 have hcl : cs.length = fs.size := by rw [hl, hC]
 refine ⟨hcl, fun j f hj => ?_⟩
 obtain ⟨ho, hk⟩ := hone_of hone j f hj
 have hjl : j < fs.size := (Array.getElem?_eq_some_iff.1 hj).1
 have h1 := hfl j f hj
 rw [ho, hk, take1_drop cs j undef (by omega)] at h1
 refine ⟨cs.getD j undef, ys[j]'(by omega), k, ?_, ?_⟩
 · simp [List.getD, List.getElem?_eq_getElem (show j < cs.length by omega)]
 · rw [h1]; exact List.getElem?_eq_getElem (by omega)
end
section
variable {H : Type} {enc : TypeId × Value → H} {W : World}
set_option maxRecDepth 100000 in
theorem rq_of_cells {cell : Nat → Option Value} (h0 : ∃ v y n, cell 0 = some v ∧ DataW.trod enc Tryz.prog W 0 (fun _ => true) true n 3 [v] = some y) (h1 : ∃ v y n, cell 1 = some v ∧ DataW.trod enc Tryz.prog W 0 (fun _ => true) true n 3 [v] = some y) (h2 : ∃ v y n, cell 2 = some v ∧ DataW.trod enc Tryz.prog W 0 (fun _ => true) true n 3 [v] = some y) (h3 : ∃ v y n, cell 3 = some v ∧ DataW.trod enc Tryz.prog W 0 (fun _ => true) true n 3 [v] = some y) (h4 : ∃ v y n, cell 4 = some v ∧ DataW.trod enc Tryz.prog W 0 (fun _ => true) true n 3 [v] = some y) (h5 : ∃ v y n, cell 5 = some v ∧ DataW.trod enc Tryz.prog W 0 (fun _ => true) true n 3 [v] = some y) (h6 : ∃ v y n, cell 6 = some v ∧ DataW.trod enc Tryz.prog W 0 (fun _ => true) true n 9 [v] = some y) (h7 : ∃ v y n, cell 7 = some v ∧ DataW.trod enc Tryz.prog W 0 (fun _ => true) true n 9 [v] = some y) :
 ∃ r : RQ, ∀ j v, r.cells[j]? = some v → cell j = some v := by
 obtain ⟨v0, x0, n0, c0, t0⟩ := h0
 obtain ⟨v1, x1, n1, c1, t1⟩ := h1
 obtain ⟨v2, x2, n2, c2, t2⟩ := h2
 obtain ⟨v3, x3, n3, c3, t3⟩ := h3
 obtain ⟨v4, x4, n4, c4, t4⟩ := h4
 obtain ⟨v5, x5, n5, c5, t5⟩ := h5
 obtain ⟨v6, x6, n6, c6, t6⟩ := h6
 obtain ⟨v7, x7, n7, c7, t7⟩ := h7
 obtain ⟨y0, e0, _, w0⟩ := DataW.trod_int Tryz.underlying3 t0
 obtain ⟨y1, e1, _, w1⟩ := DataW.trod_int Tryz.underlying3 t1
 obtain ⟨y2, e2, _, w2⟩ := DataW.trod_int Tryz.underlying3 t2
 obtain ⟨y3, e3, _, w3⟩ := DataW.trod_int Tryz.underlying3 t3
 obtain ⟨y4, e4, _, w4⟩ := DataW.trod_int Tryz.underlying3 t4
 obtain ⟨y5, e5, _, w5⟩ := DataW.trod_int Tryz.underlying3 t5
 obtain ⟨y6, e6, _, w6⟩ := DataW.trod_string Tryz.underlying9 t6
 obtain ⟨y7, e7, _, w7⟩ := DataW.trod_string Tryz.underlying9 t7
 simp only [List.cons.injEq, and_true] at e0 e1 e2 e3 e4 e5 e6 e7
 subst e0 e1 e2 e3 e4 e5 e6 e7
 refine ⟨⟨y0, y1, y2, y3, y4, y5, y6, y7⟩, fun j v hv => ?_⟩
 match j with
 | 0 => cases hv; exact c0
 | 1 => cases hv; exact c1
 | 2 => cases hv; exact c2
 | 3 => cases hv; exact c3
 | 4 => cases hv; exact c4
 | 5 => cases hv; exact c5
 | 6 => cases hv; exact c6
 | 7 => cases hv; exact c7
 | j + 8 => simp [RQ.cells] at hv
set_option maxRecDepth 100000 in
theorem rqs_of {ao : Option Addr} {len cap : Nat} {d : DataW H} {p : List MemPlace} (h : DataW.Trod enc Tryz.prog W 0 (fun _ => true) true 39 (.slice ao len cap) d p) :
 ∃ rs : List RQ, len = rs.length ∧ RqsAt W ao rs ∧ len ≤ cap ∧ cap ≤ maxLen := by
 obtain ⟨hl, hm, hx⟩ := rows_of Tryz.underlying39 Tryz.underlying52 (by kernel_rfl) (by kernel_rfl) (by decide) h
 rcases hx with h0 | ⟨b, off, rfl, hx⟩
 · exact ⟨[], by simpa using h0, Or.inl rfl, hl, hm⟩
 · obtain ⟨X, hX⟩ := choose_lt (α := RQ) (n := len) (p := fun i o => o.at_ W b (off + i * 8)) (fun i hi => by
    obtain ⟨r, hr⟩ := rq_of_cells (cell := fun j => W.cell? ⟨b, off + (i * 8 + j), none⟩) (hx i hi 0 _ rfl) (hx i hi 1 _ rfl) (hx i hi 2 _ rfl) (hx i hi 3 _ rfl) (hx i hi 4 _ rfl) (hx i hi 5 _ rfl) (hx i hi 6 _ rfl) (hx i hi 7 _ rfl)
    exact ⟨r, fun j v hv => by rw [Nat.add_assoc]; exact hr j v hv⟩)
   refine ⟨(List.range len).map X, by simp, Or.inr ⟨b, off, rfl, fun i hi => ?_⟩, hl, hm⟩
   simp at hi
   simp only [List.getElem_map, List.getElem_range]
   exact hX i hi
end
end
section
open Go.ChangeShapes Go.WideShapes Go.ChangeAt Go.Deep
structure LO where
 p : Int
 c : Int
 q : Int
 ro : Option Addr
 rs : List RQ
 n : Nat
 cap : Nat
instance : Inhabited LO := ⟨⟨0, 0, 0, none, [], 0, 0⟩⟩
def LO.ok (w : World) (o : LO) : Prop := RqsAt w o.ro o.rs ∧ o.rs.length = o.n ∧ o.n ≤ o.cap ∧ o.cap ≤ maxLen
def LosAt (w : World) (ao : Option Addr) (ls : List LO) : Prop :=
 (ls = [] ∨ ∃ b off, ao = some ⟨b, off, none⟩ ∧ ∀ i (h : i < ls.length), w.cell? ⟨b, off + i * 4, none⟩ = some (.int .i64 ls[i].p) ∧ w.cell? ⟨b, off + i * 4 + 1, none⟩ = some (.int .i64 ls[i].c) ∧ w.cell? ⟨b, off + i * 4 + 2, none⟩ = some (.int .i64 ls[i].q) ∧ w.cell? ⟨b, off + i * 4 + 3, none⟩ = some (.slice ls[i].ro ls[i].n ls[i].cap)) ∧
 ∀ o ∈ ls, o.ok w
theorem rqs_below {w w' : World} {ao : Option Addr} {rs : List RQ} (h : RqsAt w ao rs) (hb : Below w.heap.size w w') : RqsAt w' ao rs := by
 rcases h with h | ⟨b, off, h1, h2⟩
 · exact Or.inl h
 · exact Or.inr ⟨b, off, h1, fun i hi => (h2 i hi).below hb⟩
theorem LosAt.below {w w' : World} {ao : Option Addr} {ls : List LO} (h : LosAt w ao ls) (hb : Below w.heap.size w w') : LosAt w' ao ls := by
 refine ⟨?_, fun o ho => ⟨rqs_below (h.2 o ho).1 hb, (h.2 o ho).2⟩⟩
 rcases h.1 with h | ⟨b, off, h1, h2⟩
 · exact Or.inl h
 · refine Or.inr ⟨b, off, h1, fun i hi => ?_⟩
   obtain ⟨c0, c1, c2, c3⟩ := h2 i hi
   exact ⟨by rw [hb.cell (World.block_lt_of_cell? w _ c0)]; exact c0, by rw [hb.cell (World.block_lt_of_cell? w _ c1)]; exact c1, by rw [hb.cell (World.block_lt_of_cell? w _ c2)]; exact c2, by rw [hb.cell (World.block_lt_of_cell? w _ c3)]; exact c3⟩
theorem LosAt.at_ {w : World} {ao : Option Addr} {ls : List LO} (h : LosAt w ao ls) (i : Nat) (hi : i < ls.length) : ∃ b off, ao = some ⟨b, off, none⟩ ∧ w.cell? ⟨b, off + i * 4, none⟩ = some (.int .i64 ls[i].p) ∧ w.cell? ⟨b, off + i * 4 + 1, none⟩ = some (.int .i64 ls[i].c) ∧ w.cell? ⟨b, off + i * 4 + 2, none⟩ = some (.int .i64 ls[i].q) ∧ w.cell? ⟨b, off + i * 4 + 3, none⟩ = some (.slice ls[i].ro ls[i].n ls[i].cap) := by
 rcases h.1 with h | ⟨b, off, h1, h2⟩
 · rw [h] at hi; simp at hi
 · exact ⟨b, off, h1, h2 i hi⟩
section
variable {H : Type} {enc : TypeId × Value → H} {W : World}
set_option maxRecDepth 100000 in
theorem los_of {ao : Option Addr} {len cap : Nat} {d : DataW H} {p : List MemPlace}
 (h : DataW.Trod enc Tryz.prog W 0 (fun _ => true) true 25 (.slice ao len cap) d p) :
 ∃ ls : List LO, len = ls.length ∧ LosAt W ao ls ∧ len ≤ cap ∧ cap ≤ maxLen := by
 obtain ⟨fuel, hf⟩ := h
 rcases open_slice Tryz.underlying25 hf with ⟨hcs, _⟩ | ⟨a, l, c, m, n, D, Pl, hcs, _, hl, hm, hmm, _, hx⟩
 · simp [Value.cells] at hcs
   obtain ⟨rfl, rfl, rfl⟩ := hcs
   exact ⟨[], rfl, ⟨Or.inl rfl, fun o ho => by simp at ho⟩, Nat.le_refl _, Nat.zero_le _⟩
 · simp [Value.cells] at hcs
   obtain ⟨rfl, rfl, rfl⟩ := hcs
   have hmc : m = cap := by simpa using hmm
   have hC : Tryz.prog.cellsOf 43 = 4 := by kernel_rfl
   have hc1 : Tryz.prog.cellsOf 3 = 1 := by kernel_rfl
   have hc2 : Tryz.prog.cellsOf 41 = 2 := by kernel_rfl
   have key : ∀ i, i < len → ∃ o : LO, W.cell? (a.add (i * 4)) = some (.int .i64 o.p) ∧ W.cell? (a.add (i * 4 + 1)) = some (.int .i64 o.c) ∧ W.cell? (a.add (i * 4 + 2)) = some (.int .i64 o.q) ∧ W.cell? (a.add (i * 4 + 3)) = some (.slice o.ro o.n o.cap) ∧ o.ok W := by
    intro i hi
    obtain ⟨cs, hc, htr⟩ := hx i (by omega)
    rw [hC] at hc
    obtain ⟨_, hcl, hat⟩ := World.cells?_some hc
    obtain ⟨ys, k, _, _, _, hyl, hfl⟩ := DataW.trod_struct Tryz.underlying43 htr
    obtain ⟨v0, v1, v2, v3, rfl⟩ : ∃ v0 v1 v2 v3, cs = [v0, v1, v2, v3] := by
     match cs, hcl with
     | [v0, v1, v2, v3], _ => exact ⟨v0, v1, v2, v3, rfl⟩
    have f0 : DataW.trod enc Tryz.prog W 0 (fun _ => true) true k 3 [v0] = ys[0]? := by
     have h := hfl 0 _ rfl
     simp only [List.getElem_toArray, List.getElem_cons_zero, List.getElem_cons_succ] at h
     rw [hc1] at h
     exact h
    have f1 : DataW.trod enc Tryz.prog W 0 (fun _ => true) true k 3 [v1] = ys[1]? := by
     have h := hfl 1 _ rfl
     simp only [List.getElem_toArray, List.getElem_cons_zero, List.getElem_cons_succ] at h
     rw [hc1] at h
     exact h
    have f2 : DataW.trod enc Tryz.prog W 0 (fun _ => true) true k 41 [v2, v3] = ys[2]? := by
     have h := hfl 2 _ rfl
     simp only [List.getElem_toArray, List.getElem_cons_zero, List.getElem_cons_succ] at h
     rw [hc2] at h
     exact h
    rw [List.getElem?_eq_getElem (by rw [hyl]; decide)] at f0 f1 f2
    obtain ⟨y0, e0, _, _⟩ := DataW.trod_int Tryz.underlying3 f0
    obtain ⟨y1, e1, _, _⟩ := DataW.trod_int Tryz.underlying3 f1
    obtain ⟨_, hxx⟩ := agg_of Tryz.underlying41 (by kernel_rfl) (by kernel_rfl) f2
    obtain ⟨u0, z0, n0, g0, t0⟩ := hxx 0 _ rfl
    obtain ⟨u1, z1, n1, g1, t1⟩ := hxx 1 _ rfl
    obtain ⟨y2, e2, _, _⟩ := DataW.trod_int Tryz.underlying3 t0
    simp only [List.cons.injEq, and_true] at e0 e1 e2
    subst e0 e1 e2
    simp only [List.getElem?_cons_zero, List.getElem?_cons_succ, Option.some.injEq] at g0 g1
    subst g0 g1
    obtain ⟨ro, len1, cap1, rfl⟩ : ∃ ao len cap, v3 = .slice ao len cap := by
     rcases open_slice Tryz.underlying39 t1 with ⟨hcs, _⟩ | ⟨a, l, c, m, n, D, Pl, hcs, _⟩
     · simp at hcs; exact ⟨_, _, _, hcs⟩
     · simp at hcs; exact ⟨_, _, _, hcs⟩
    obtain ⟨rs, h1, h2, h3, h4⟩ := rqs_of (ao := ro) (len := len1) (cap := cap1) ⟨n1, t1⟩
    have b0 := hat 0 (by omega)
    have b1 := hat 1 (by omega)
    have b2 := hat 2 (by omega)
    have b3 := hat 3 (by omega)
    rw [Go.Deep.add_add] at b0 b1 b2 b3
    refine ⟨⟨y0, y1, y2, ro, rs, len1, cap1⟩, ?_, ?_, ?_, ?_, h2, h1.symm, h3, h4⟩
    · exact b0
    · exact b1
    · exact b2
    · exact b3
   obtain ⟨X, hX⟩ := choose_lt (α := LO) (n := len) (p := fun i o => W.cell? (a.add (i * 4)) = some (.int .i64 o.p) ∧ W.cell? (a.add (i * 4 + 1)) = some (.int .i64 o.c) ∧ W.cell? (a.add (i * 4 + 2)) = some (.int .i64 o.q) ∧ W.cell? (a.add (i * 4 + 3)) = some (.slice o.ro o.n o.cap) ∧ o.ok W) key
   refine ⟨(List.range len).map X, by simp, ⟨?_, ?_⟩, hl, hm⟩
   · by_cases h0 : len = 0
     · exact Or.inl (by simp [h0])
     · have hc0 := (hX 0 (by omega)).1
       obtain ⟨b, off, spot⟩ := a
       have hspot : spot = none := by simpa [Addr.add] using World.cell?_spot hc0
       subst hspot
       refine Or.inr ⟨b, off, rfl, fun i hi => ?_⟩
       simp at hi
       obtain ⟨g0, g1, g2, g3, _⟩ := hX i hi
       rw [addr_add] at g0 g1 g2 g3
       simp only [List.getElem_map, List.getElem_range]
       exact ⟨g0, g1, g2, g3⟩
   · intro o ho
     simp only [List.mem_map, List.mem_range] at ho
     obtain ⟨i, hi, rfl⟩ := ho
     exact (hX i hi).2.2.2.2
set_option maxRecDepth 100000 in
theorem conf_of {v : Value} {d : DataW H} {p : List MemPlace} (hv : Value.okWide Tryz.prog W .any 0 24 v) (h : DataW.Trod enc Tryz.prog W 0 (fun _ => true) true 24 v d p) :
 ∃ (ao : Option Addr) (bs : List ISl) (n cap : Nat) (E : Int), v = .agg #[.slice ao n cap, .int .i64 E] ∧ bs.length = n ∧ IntsList W ao bs ∧ n ≤ cap ∧ cap ≤ maxLen := by
 obtain ⟨cs, rfl, hsz⟩ := okWide_struct Tryz.underlying24 hv
 obtain ⟨fuel, hf⟩ := h
 obtain ⟨hl, hx⟩ := agg_of Tryz.underlying24 (by kernel_rfl) (by kernel_rfl) hf
 obtain ⟨v0, x0, n0, c0, t0⟩ := hx 0 _ rfl
 obtain ⟨v1, x1, n1, c1, t1⟩ := hx 1 _ rfl
 obtain ⟨y1, e1, _, w1⟩ := DataW.trod_int Tryz.underlying3 t1
 simp only [List.cons.injEq, and_true] at e1
 subst e1
 obtain ⟨ao, len, cap, rfl⟩ : ∃ ao len cap, v0 = .slice ao len cap := by
  rcases open_slice Tryz.underlying22 t0 with ⟨hcs, _⟩ | ⟨a, l, c, m, n, D, Pl, hcs, _⟩
  · simp at hcs; exact ⟨_, _, _, hcs⟩
  · simp at hcs; exact ⟨_, _, _, hcs⟩
 obtain ⟨bs, h1, h2, h3, h4⟩ := ilists_of (ao := ao) (len := len) (cap := cap) Tryz.underlying22 (by kernel_rfl) Tryz.underlying60 Tryz.underlying3 (by kernel_rfl) ⟨n0, t0⟩
 refine ⟨ao, bs, len, cap, y1, ?_, h1.symm, h2, h3, h4⟩
 have e : (Value.agg cs).cells = cs := rfl
 rw [e] at c0 c1 hl
 congr 1
 apply Array.ext_getElem?
 intro j
 have h9 : cs.size = 2 := by simpa using hl
 rw [Array.getElem?_toList] at c0 c1
 match j with
 | 0 => rw [c0]; rfl
 | 1 => rw [c1]; rfl
 | j + 2 => rw [Array.getElem?_eq_none (by omega)]; simp
end
end
end Go.Proofs.YtkaciaehlibidaaGreat
