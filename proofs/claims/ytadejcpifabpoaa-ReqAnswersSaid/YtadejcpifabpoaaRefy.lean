/- Contract of cflref9.DecodeAnswer. -/
import Derived.Test.YtadejcpifabpoaaRefu
import Derived.Test.YtadejcpifabpoaaRefx
namespace Go.Proofs.Ytadejcpifabpoaa
open Go.RowKit
set_option linter.unusedVariables false

theorem repGet_def (d : DS) : repGet d = (((dN 1 d).1, (dN 2 (dN 1 d).2).1), (dN 2 (dN 1 d).2).2) := rfl
theorem rans_def (b : List Int) : rans b =
  (⟨(dN 8 (b, 0)).1, (dN 2 (dN 8 (b, 0)).2).1, (manyGet repGet (dN 1 (dN 2 (dN 8 (b, 0)).2).2).1.toNat (dN 1 (dN 2 (dN 8 (b, 0)).2).2).2).1,
    (manyGet evxGet (dN 2 (manyGet repGet (dN 1 (dN 2 (dN 8 (b, 0)).2).2).1.toNat (dN 1 (dN 2 (dN 8 (b, 0)).2).2).2).2).1.toNat (dN 2 (manyGet repGet (dN 1 (dN 2 (dN 8 (b, 0)).2).2).1.toNat (dN 1 (dN 2 (dN 8 (b, 0)).2).2).2).2).2).1⟩,
    (manyGet evxGet (dN 2 (manyGet repGet (dN 1 (dN 2 (dN 8 (b, 0)).2).2).1.toNat (dN 1 (dN 2 (dN 8 (b, 0)).2).2).2).2).1.toNat (dN 2 (manyGet repGet (dN 1 (dN 2 (dN 8 (b, 0)).2).2).1.toNat (dN 1 (dN 2 (dN 8 (b, 0)).2).2).2).2).2).2) := rfl
def RDecAPost (w : World) (r : AN × Int) (e : Ending) (w' : World) : Prop :=
  ∃ ro n rc eo m ec, e = .returned (.tuple #[.agg #[.int .i64 r.1.c, .int .i64 r.1.q, .slice ro n rc, .slice eo m ec], .int .i64 r.2]) ∧ r.1.rs.length = n ∧ RepsAt w' ro r.1.rs ∧ r.1.es.length = m ∧ EvsAt w' eo r.1.es ∧ n ≤ 255 ∧ m ≤ 65535 ∧ Below w.heap.size w w'

set_option maxRecDepth 100000 in
set_option maxHeartbeats 8000000 in
theorem rdecodeAnswer (ao : Option Addr) (zs : List Int) (n cap : Nat) (w : World) (hn : zs.length = n) (h : IntsAt .u8 w ao zs) (hB : InB zs) (hc : n ≤ cap) (hm : cap ≤ maxLen) (hl : n ≤ 1000000) :
    Calls Try.prog 45 #[.slice ao n cap] w (RDecAPost w (rdecA zs)) := by
  obtain ⟨w2, hw2⟩ : ∃ w2, w2 = (w.alloc (.cells #[.int .i64 0, .int .i64 0, .slice none 0 0, .slice none 0 0] 57)).alloc (.cells #[.slice ao n cap, .int .i64 0] 108) := ⟨_, rfl⟩
  obtain ⟨g, hg2, hgl⟩ := rdec_start (o := .cells #[.int .i64 0, .int .i64 0, .slice none 0 0, .slice none 0 0] 57) hn h hB hc hm (by omega)
  have HB2 : Hid (Below w.heap.size w w2) := Lib.hid (by subst hw2; exact ((Below.refl _ _).alloc (Nat.le_refl _) _).alloc (by simp) _)
  have HS2 : Hid (w2.heap.size = w.heap.size + 2) := Lib.hid (by subst hw2; simp)
  have HR2 : Hid (w2.heap[w.heap.size]? = some (.cells #[.int .i64 0, .int .i64 0, .slice none 0 0, .slice none 0 0] 57 (0, 0))) := Lib.hid (by subst hw2; exact (Below.heap_alloc _ _ _ (by simp)).trans (heap_alloc_new w _))
  rw [← hw2] at hg2
  have HG2 := Lib.hid hg2
  have HW2 := Lib.hid hw2
  have HI := Lib.hid h
  have HN := Lib.hid hn
  have HIB := Lib.hid hB
  clear hg2 hw2 h hn hB
  go_enter Try.func45, Try.ntmps45
  go_wp2_with fail
  rw [← HW2.out]
  refine (refdec_num (w.heap.size + 1) g zs 0 8 w2 HG2.out).mono ?_
  rintro en wA ⟨rfl, hiA, hkA⟩
  have HIA : Hid (DecAt 108 wA (w.heap.size + 1) g (dN 8 (zs, 0)).2.1 (dN 8 (zs, 0)).2.2) := Lib.hid hiA
  have HKA := Lib.hid hkA
  have HBI := Lib.hid (rans_def zs)
  obtain ⟨ck, hck⟩ : ∃ ck, ck = (decNum zs 0 8).1 := ⟨_, rfl⟩
  have HSE := Lib.hid (show (dN 8 (zs, 0)).1 = ck from hck.symm)
  rw [← hck]
  rw [HSE.out] at HBI
  generalize (dN 8 (zs, 0)).2 = stA at *
  clear hiA hkA hck HSE
  go_wp2_with fail
  refine (refdec_num (w.heap.size + 1) g stA.1 stA.2 2 wA HIA.out).mono ?_
  rintro en w3 ⟨rfl, hi3, hk3⟩
  have HI3 : Hid (DecAt 108 w3 (w.heap.size + 1) g (dN 2 stA).2.1 (dN 2 stA).2.2) := Lib.hid hi3
  have HK3 : Hid (Keeps (fun i => i = w.heap.size + 1) w2 w3) := Lib.hid (HKA.out.trans hk3 (fun i hi => Or.inl hi))
  obtain ⟨seen, hseen⟩ : ∃ seen, seen = (decNum stA.1 stA.2 2).1 := ⟨_, rfl⟩
  have HSE := Lib.hid (show (dN 2 stA).1 = seen from hseen.symm)
  rw [← hseen]
  rw [HSE.out] at HBI
  generalize (dN 2 stA).2 = st2 at *
  clear hi3 hk3 hseen HSE HIA HKA
  go_wp2_with fail
  obtain ⟨w4, hw4⟩ : ∃ w4, w4 = w3.alloc (.cells #[.int .i64 ck, .int .i64 seen, .slice none 0 0, .slice none 0 0] 57) := ⟨_, rfl⟩
  rw [← hw4]
  have HX4 : Hid (w4.heap[w3.heap.size]? = some (.cells #[.int .i64 ck, .int .i64 seen, .slice none 0 0, .slice none 0 0] 57 (0, 0))) := Lib.hid (by subst hw4; exact heap_alloc_new w3 _)
  have HB4 : Hid (Below w3.heap.size w3 w4) := Lib.hid (by subst hw4; exact (Below.refl _ _).alloc (Nat.le_refl _) _)
  have hsz3 := HK3.out.size
  have hsz2 := HS2.out
  clear hw4
  have HRB : Hid (RBox w4 w4 (w.heap.size + 1) g w3.heap.size 57 #[.int .i64 ck, .int .i64 seen, .slice none 0 0, .slice none 0 0] 94 2 (.slice none 0 0) 0 [] st2) := Lib.hid (RBox.start _ _ (HI3.out.keep (Keeps.of_below (S := fun _ => False) HB4.out) (fun f => f) (Or.inr (fun f => f))) HX4.out (by have := HB4.out.size; omega) (by omega) (by omega))
  have HR4 : Hid (w4.heap[w.heap.size]? = some (.cells #[.int .i64 0, .int .i64 0, .slice none 0 0, .slice none 0 0] 57 (0, 0))) := Lib.hid (by
    have a3 := (HK3.out.block _ (blk_lt HR2.out) (by omega)).trans HR2.out
    exact (HB4.out.block _ (blk_lt a3)).trans a3)
  have HB4' : Hid (Below w.heap.size w w4) := Lib.hid (by
    have b3 := HB2.out.trans (HK3.out.below (B := w.heap.size) HB2.out.size (fun i hi => by omega))
    exact b3.trans (HB4.out.mono b3.size))
  refine (HRB.out.num 1).mono ?_
  rintro en w5 ⟨rfl, hr5⟩
  have HRB5 := Lib.hid hr5
  have HLT := Lib.hid (dN_lt 1 st2 (by omega) (by obtain ⟨_, _, _, _, _, _, h, _⟩ := HRB.out.rd; exact h))
  generalize dN 1 st2 = S1 at *
  obtain ⟨N, st1⟩ := S1
  obtain ⟨N0, rfl⟩ := Int.eq_ofNat_of_zero_le HLT.out.1
  have HN255 : Hid (N0 ≤ 255) := Lib.hid (by
    have h1 : (N0 : Int) < 256 ^ 1 := HLT.out.2
    have e : (256 : Int) ^ 1 = 256 := by decide
    rw [e] at h1
    omega)
  simp only [Int.toNat_natCast] at HBI
  have hX : w3.heap.size = w3.heap.size := rfl
  have hXR : w.heap.size + 1 < w3.heap.size := by omega
  clear hr5 HX4 HLT HI3 HK3 HB4 HRB
  generalize w3.heap.size = X at *
  go_upto_block 0 with fail
  go_cut [] (fun wx => ∃ v rs d, manyGet repGet N0 st1 = (rs, d) ∧ RBox w4 wx (w.heap.size + 1) g X 57 #[.int .i64 ck, .int .i64 seen, v, .slice none 0 0] 94 2 v rs.length (rs.flatMap (fun r => (RP.cells r).toList)) d)
  case first =>
    go_wp2_with fail
    go_loopw [7] (fun i wr => ∃ m v rs d, i = .int .i64 (rs.length : Nat) ∧ manyGet repGet N0 st1 = (rs ++ (manyGet repGet m d).1, (manyGet repGet m d).2) ∧ rs.length + m = N0 ∧ RBox w4 wr (w.heap.size + 1) g X 57 #[.int .i64 ck, .int .i64 seen, v, .slice none 0 0] 94 2 v rs.length (rs.flatMap (fun r => (RP.cells r).toList)) d) (fun i _ => N0 - (intOf i).toNat)
    case atStart => exact ⟨N0, .slice none 0 0, [], st1, rfl, rfl, by simp, HRB5.out⟩
    case round =>
      obtain ⟨m, v, rs, d, rfl, hev, hlen, hrb⟩ := hrel
      have HEV := Lib.hid hev
      have HRW := Lib.hid hrb
      have c1 := hrb.err.1
      have x0 := (hrb.cells 0).1
      have x2 := (hrb.cells 2).1
      have y2 := (hrb.cells 2).2
      simp only [List.getElem?_toArray, List.getElem?_cons_zero, List.getElem?_cons_succ] at x0 x2
      have h255 := HN255.out
      clear hrb hev
      by_cases hgo : m ≠ 0 ∧ d.2 = 0
      · obtain ⟨hm0, hbad⟩ := hgo
        rw [hbad] at c1
        obtain ⟨m', rfl⟩ : ∃ m', m = m' + 1 := ⟨m - 1, by omega⟩
        have HSTEP : Hid (manyGet repGet (m' + 1) d = ((repGet d).1 :: (manyGet repGet m' (repGet d).2).1, (manyGet repGet m' (repGet d).2).2)) := Lib.hid (by
          show (if d.2 ≠ 0 then _ else _) = _
          rw [if_neg (by simp [hbad])])
        rw [repGet_def d] at HSTEP
        have HRD := Lib.hid HRW.out.drew
        have HC1 := Lib.hid (HRD.out.num 1)
        have HC2 : Hid (∀ w6, RBox w4 w6 (w.heap.size + 1) g X 57 #[.int .i64 ck, .int .i64 seen, v, .slice none 0 0] 94 2 v rs.length (rs.flatMap (fun r => (RP.cells r).toList)) (dN 1 d).2 → _) := Lib.hid (fun w6 h => h.num 2)
        have hXl := blk_lt HRW.out.box
        generalize dN 1 d = E at *
        obtain ⟨c1', s1'⟩ := E
        simp only at HC2 HSTEP
        generalize dN 2 s1' = E2 at *
        obtain ⟨i1', d1⟩ := E2
        have hmi : (rs.length : Int) < (N0 : Int) := by omega
        obtain ⟨i0, hi0, hz0, hz1, hz2⟩ := info_parts Try_infoRep
        clear hbad
        have HL := Lib.hid (show rs.length + 1 ≤ 255 by omega)
        go_wp2_with fail
        go_region_law (first
          | (go_simp; go_at_call 73; refine HC2'.out.mono ?_; rintro en w7 ⟨rfl, hr7⟩; have HR7 := Lib.hid hr7; have k2 : w7.cell? ⟨X, 2, none⟩ = some v := (HR7.out.cells 2).1; have k2f := (HR7.out.cells 2).2; have k2l := blk_lt HR7.out.box; clear hr7)
          | (go_simp; go_at_call 73; refine HC1.out.mono ?_; rintro en w6 ⟨rfl, hr6⟩; have HR6 := Lib.hid hr6; have k1 : w6.cell? ⟨X, 2, none⟩ = some v := (HR6.out.cells 2).1; have k1f := (HR6.out.cells 2).2; have HC2' := Lib.hid (HC2.out w6 hr6); clear hr6)
          | (refine step_append_any (by rfl) _ _ 54 (by rfl) 94 i0 _ 2 16 Try.underlying54 hi0 hz0 hz1 hz2 rfl (by decide) v rs.length (rs.flatMap (fun r => (RP.cells r).toList)) (by rfl) (HR7.out.own.alloc _) (some ⟨w7.heap.size, 0, none⟩) 1 1 (RP.cells (c1', i1')).toList (by rfl) (by rfl) (fun e => by cases e) (fun ad had => by cases had; exact World.news_of_block (heap_alloc_new _ _)) (by simp [Value.oneCell', RP.cells]) (by have := HL.out; unfold maxLen; omega) (by have := HL.out; omega) ?_; intro ao2 cap2 w8 hown hgrow hat hnn; have HR8 := Lib.hid ((HR7.out.below ((Below.refl _ _).alloc (Nat.le_refl _) _)).grow hown hgrow (fun b hb => (hat b hb).imp id (fun e => by rw [e]; exact Nat.le_refl _)) 2); have kne : v.ownBlock ≠ some X := (fun e => absurd (HR7.out.fresh X e) (by have := HR7.out.xl; omega)); have k3 : w8.cell? ⟨X, 2, none⟩ = some v := ((hgrow.cell_far _ (by simp; omega) (Ne.symm kne)).trans ((World.cell?_alloc_past _ _ _ k2l).trans k2)); have k3f : w8.frozen? ⟨X, 2, none⟩ = false := ((hgrow.frozen_far _ (by simp; omega) (Ne.symm kne)).trans ((World.frozen?_alloc_past _ _ _ k2l).trans k2f))))
        all_goals
          have HR9 := Lib.hid HR8.out
          clear HR8 HR7 HR6
          go_wp2
          go_roundw
          case rel => exact ⟨m', _, rs ++ [(c1', i1')], d1, by first | (go_num; done) | simp, by rw [HEV.out, HSTEP.out]; simp, by simp; omega, by simpa using HR9.out⟩
          case measure => (try simp [intOf]); (try omega)
      · have HFIN : Hid (manyGet repGet N0 st1 = (rs, d)) := Lib.hid (by
          rw [HEV.out]
          have e : manyGet repGet m d = ([], d) := by
            cases m with
            | zero => rfl
            | succ k =>
              have hb : d.2 ≠ 0 := fun h => hgo ⟨Nat.succ_ne_zero k, h⟩
              show (if d.2 ≠ 0 then _ else _) = _
              rw [if_pos hb]
          rw [e]; simp)
        by_cases hm0 : m = 0
        · have hz : ¬ ((rs.length : Int) < (N0 : Int)) := by omega
          clear hgo
          go_wp2_with fail
          go_meet
          case rel => exact ⟨v, rs, d, HFIN.out, HRW.out⟩
        · have hb : (d.2 == 0) = false := by simp; intro h; exact hgo ⟨hm0, h⟩
          have hz : ((rs.length : Int) < (N0 : Int)) := by omega
          clear hgo
          go_wp2_with fail
          go_meet
          case rel => exact ⟨v, rs, d, HFIN.out, HRW.out⟩
  case rest =>
    obtain ⟨v, rs, d, hfin, hrb⟩ := hcut
    have HFIN := Lib.hid hfin
    have HRW := Lib.hid hrb
    clear hfin hrb HRB5
    obtain ⟨ro, rc, hv, hrcl, hrcm⟩ := own_shape HRW.out.own
    subst hv
    have HLR : Hid (rs.length ≤ 255) := Lib.hid (by
      have h := manyGet_size repGet N0 st1
      rw [HFIN.out] at h
      have h2 := HN255.out
      simp only at h; omega)
    have HBI2 : Hid (rans zs = (⟨ck, seen, rs, (manyGet evxGet (dN 2 d).1.toNat (dN 2 d).2).1⟩, (manyGet evxGet (dN 2 d).1.toNat (dN 2 d).2).2)) := Lib.hid (by
      have h := HBI.out
      simp only [HFIN.out] at h
      exact h)
    go_wp2_with fail
    refine (HRW.out.num 2).mono ?_
    rintro en w6 ⟨rfl, hr6⟩
    have HLT := Lib.hid (dN_lt 2 d (by omega) (by obtain ⟨_, _, _, _, _, _, h, _⟩ := HRW.out.rd; exact h))
    generalize dN 2 d = S3 at *
    obtain ⟨M, st3⟩ := S3
    have HRE : Hid (RBox w6 w6 (w.heap.size + 1) g X 57 #[.int .i64 ck, .int .i64 seen, .slice ro rs.length rc, .slice none 0 0] 84 9 (.slice none 0 0) 0 [] st3) := Lib.hid (RBox.start _ _ hr6.rd hr6.box (Nat.lt_of_lt_of_le hr6.gl hr6.keep.size) hr6.gX hr6.pX)
    have HBW6 : Hid (Below w.heap.size w w6) := Lib.hid (HB4'.out.trans (hr6.keep.below (B := w.heap.size) HB4'.out.size (fun i hi => by omega)))
    have HRC6 : Hid (w6.heap[w.heap.size]? = some (.cells #[.int .i64 0, .int .i64 0, .slice none 0 0, .slice none 0 0] 57 (0, 0))) := Lib.hid ((hr6.keep.block _ (blk_lt HR4.out) (fun h => by omega)).trans HR4.out)
    have HOR6 := Lib.hid hr6.own
    have HFR6 : Hid (∀ b, (Value.slice ro rs.length rc).ownBlock = some b → w.heap.size + 1 < b ∧ X < b ∧ w.heap.size < b) := Lib.hid (fun b hb => by
      have h1 := hr6.fresh b hb
      have h2 := hr6.pl
      have h3 := hr6.xl
      omega)
    obtain ⟨M0, rfl⟩ := Int.eq_ofNat_of_zero_le HLT.out.1
    have HM : Hid (M0 ≤ 65535) := Lib.hid (by
      have h1 : (M0 : Int) < 256 ^ 2 := HLT.out.2
      have e : (256 : Int) ^ 2 = 65536 := by decide
      rw [e] at h1
      omega)
    simp only [Int.toNat_natCast] at HBI2
    clear hr6 HLT HRW HFIN HBI HB4' HR4
    go_upto_block 2 with fail
    go_cut [] (fun wx => ∃ v es d, manyGet evxGet M0 st3 = (es, d) ∧ RBox w6 wx (w.heap.size + 1) g X 57 #[.int .i64 ck, .int .i64 seen, .slice ro rs.length rc, v] 84 9 v es.length (es.flatMap (fun r => r.cells.toList)) d)
    case first =>
      go_wp2_with fail
      go_loopw [8] (fun i wr => ∃ m v es d, i = .int .i64 (es.length : Nat) ∧ manyGet evxGet M0 st3 = (es ++ (manyGet evxGet m d).1, (manyGet evxGet m d).2) ∧ es.length + m = M0 ∧ RBox w6 wr (w.heap.size + 1) g X 57 #[.int .i64 ck, .int .i64 seen, .slice ro rs.length rc, v] 84 9 v es.length (es.flatMap (fun r => r.cells.toList)) d) (fun i _ => M0 - (intOf i).toNat)
      case atStart => exact ⟨M0, .slice none 0 0, [], st3, rfl, rfl, by simp, HRE.out⟩
      case round =>
        obtain ⟨m, v, es, d, rfl, hev, hlen, hrb⟩ := hrel
        have HEV := Lib.hid hev
        have HRW := Lib.hid hrb
        have c1 := hrb.err.1
        have x0 := (hrb.cells 0).1
        have x3 := (hrb.cells 3).1
        have y3 := (hrb.cells 3).2
        simp only [List.getElem?_toArray, List.getElem?_cons_zero, List.getElem?_cons_succ] at x0 x3
        have h65 := HM.out
        clear hrb hev
        by_cases hgo : m ≠ 0 ∧ d.2 = 0
        · obtain ⟨hm0, hbad⟩ := hgo
          rw [hbad] at c1
          obtain ⟨m', rfl⟩ : ∃ m', m = m' + 1 := ⟨m - 1, by omega⟩
          have HSTEP : Hid (manyGet evxGet (m' + 1) d = ((evxGet d).1 :: (manyGet evxGet m' (evxGet d).2).1, (manyGet evxGet m' (evxGet d).2).2)) := Lib.hid (by
            show (if d.2 ≠ 0 then _ else _) = _
            rw [if_neg (by simp [hbad])])
          have HRD := Lib.hid HRW.out.drew
          have HIE := Lib.hid (getEvent (w.heap.size + 1) g d wr.drew HRD.out.rd (Nat.lt_of_lt_of_le HRW.out.gl (by have := HRW.out.keep.size; simpa using this)))
          unfold evxPost EV.cells at HIE
          have hXl := blk_lt HRW.out.box
          generalize evxGet d = E at *
          obtain ⟨e1, d1⟩ := E
          have hmi : (es.length : Int) < (M0 : Int) := by omega
          obtain ⟨i0, hi0, hz0, hz1, hz2⟩ := info_parts Try_infoEv
          clear hbad
          have HL := Lib.hid (show es.length + 1 ≤ 65535 by omega)
          go_wp2_with fail
          go_region_law (first
            | (go_simp; go_at_call 80; refine HIE.out.mono ?_; rintro en w7 ⟨rfl, hi7, hk7⟩; have HR7 := Lib.hid (HRD.out.read hk7 hi7); have k2 : w7.cell? ⟨X, 3, none⟩ = some v := (HR7.out.cells 3).1; have k2f := (HR7.out.cells 3).2; have k2l := blk_lt HR7.out.box; clear hi7 hk7)
            | (refine step_append_any (by rfl) _ _ 55 (by rfl) 84 i0 _ 9 88 Try.underlying55 hi0 hz0 hz1 hz2 rfl (by decide) v es.length (es.flatMap (fun r => r.cells.toList)) (by rfl) (HR7.out.own.alloc _) (some ⟨w7.heap.size, 0, none⟩) 1 1 e1.cells.toList (by rfl) (by rfl) (fun e => by cases e) (fun ad had => by cases had; exact World.news_of_block (heap_alloc_new _ _)) (by simp [Value.oneCell', EV.cells]) (by have := HL.out; unfold maxLen; omega) (by have := HL.out; omega) ?_; intro ao2 cap2 w8 hown hgrow hat hnn; have HR8 := Lib.hid ((HR7.out.below ((Below.refl _ _).alloc (Nat.le_refl _) _)).grow hown hgrow (fun b hb => (hat b hb).imp id (fun e => by rw [e]; exact Nat.le_refl _)) 3); have kne : v.ownBlock ≠ some X := (fun e => absurd (HR7.out.fresh X e) (by have := HR7.out.xl; omega)); have k3 : w8.cell? ⟨X, 3, none⟩ = some v := ((hgrow.cell_far _ (by simp; omega) (Ne.symm kne)).trans ((World.cell?_alloc_past _ _ _ k2l).trans k2)); have k3f : w8.frozen? ⟨X, 3, none⟩ = false := ((hgrow.frozen_far _ (by simp; omega) (Ne.symm kne)).trans ((World.frozen?_alloc_past _ _ _ k2l).trans k2f))))
          all_goals
            have HR9 := Lib.hid HR8.out
            clear HR8 HR7
            go_wp2
            go_roundw
            case rel => exact ⟨m', _, es ++ [e1], d1, by first | (go_num; done) | simp, by rw [HEV.out, HSTEP.out]; simp, by simp; omega, by simpa using HR9.out⟩
            case measure => (try simp [intOf]); (try omega)
        · have HFIN : Hid (manyGet evxGet M0 st3 = (es, d)) := Lib.hid (by
            rw [HEV.out]
            have e : manyGet evxGet m d = ([], d) := by
              cases m with
              | zero => rfl
              | succ k =>
                have hb : d.2 ≠ 0 := fun h => hgo ⟨Nat.succ_ne_zero k, h⟩
                show (if d.2 ≠ 0 then _ else _) = _
                rw [if_pos hb]
            rw [e]; simp)
          by_cases hm0 : m = 0
          · have hz : ¬ ((es.length : Int) < (M0 : Int)) := by omega
            clear hgo
            go_wp2_with fail
            go_meet
            case rel => exact ⟨v, es, d, HFIN.out, HRW.out⟩
          · have hb : (d.2 == 0) = false := by simp; intro h; exact hgo ⟨hm0, h⟩
            have hz : ((es.length : Int) < (M0 : Int)) := by omega
            clear hgo
            go_wp2_with fail
            go_meet
            case rel => exact ⟨v, es, d, HFIN.out, HRW.out⟩
    case rest =>
      obtain ⟨v, es, d, hfin, hrb⟩ := hcut
      have HFIN := Lib.hid hfin
      have HRW := Lib.hid hrb
      clear hfin hrb HRE
      obtain ⟨eo, ec, hv, hecl, hecm⟩ := own_shape HRW.out.own
      subst hv
      have HLE : Hid (es.length ≤ 65535) := Lib.hid (by
        have h := manyGet_size evxGet M0 st3
        rw [HFIN.out] at h
        have h2 := HM.out
        simp only at h; omega)
      have HBW : Hid (Below w.heap.size w wc) := Lib.hid (HBW6.out.trans (HRW.out.keep.below (B := w.heap.size) HBW6.out.size (fun i hi => by omega)))
      have HRC : Hid (wc.heap[w.heap.size]? = some (.cells #[.int .i64 0, .int .i64 0, .slice none 0 0, .slice none 0 0] 57 (0, 0))) := Lib.hid ((HRW.out.keep.block _ (blk_lt HRC6.out) (fun h => by omega)).trans HRC6.out)
      have HORW : Hid (wc.ownsRow 0 94 2 (.slice ro rs.length rc) rs.length (rs.flatMap (fun r => (RP.cells r).toList))) := Lib.hid (ownsRow_same HOR6.out (fun b hb => HRW.out.keep.block b (HOR6.out.lt b hb).2 (by have := HFR6.out b hb; omega)))
      have HZS := Lib.hid (ints_below HI.out HBW.out)
      have HDEC : Hid (rdecA zs = if decEnd d.1 d.2 = 0 ∧ (ansF ck seen rs es).2 = 0 ∧ (ansF ck seen rs es).1 = zs then (⟨ck, seen, rs, es⟩, 0) else (an0, 2)) := Lib.hid (by
        unfold rdecA
        rw [HBI2.out, HFIN.out]
        rfl)
      have HENC := Lib.hid (rencodeAnswer ck seen ro rs rs.length rc eo es es.length ec wc rfl (reps_own HORW.out rfl) rfl (evs_own HRW.out.own rfl))
      have HEI := Lib.hid (ansF_in ck seen rs es)
      generalize ansF ck seen rs es = E at *
      obtain ⟨bs, er⟩ := E
      have x0 := (HRW.out.cells 0).1
      have x1 := (HRW.out.cells 1).1
      have x2 := (HRW.out.cells 2).1
      have x3 := (HRW.out.cells 3).1
      simp only [List.getElem?_toArray, List.getElem?_cons_zero, List.getElem?_cons_succ] at x0 x1 x2 x3
      go_wp2_with fail
      refine HENC.out.mono ?_
      rintro en w8 ⟨bo, ecap, rfl, hx6, hb6⟩
      have HR8 := Lib.hid (HRW.out.below hb6)
      have HW8 := Lib.hid (HBW.out.trans (hb6.mono HBW.out.size))
      have HRC8 : Hid (w8.heap[w.heap.size]? = some (.cells #[.int .i64 0, .int .i64 0, .slice none 0 0, .slice none 0 0] 57 (0, 0))) := Lib.hid ((hb6.block _ (blk_lt HRC.out)).trans HRC.out)
      have HOR8 : Hid (w8.ownsRow 0 94 2 (.slice ro rs.length rc) rs.length (rs.flatMap (fun r => (RP.cells r).toList))) := Lib.hid (ownsRow_same HORW.out (fun b hb => hb6.block b (HORW.out.lt b hb).2))
      have HEQ := Lib.hid (bytes_eq bo ao bs zs bs.length n ecap cap w8 rfl HN.out hx6 (ints_below HZS.out hb6) HEI.out HIB.out)
      have HEND := Lib.hid (refdec_end (w.heap.size + 1) g d.1 d.2 w8 HR8.out.rd)
      generalize decEnd d.1 d.2 = ee at *
      clear hx6 hb6 x0 x1 x2 x3 HRC HZS HBW HRW HFIN HBI2 HW2 HG2 HR2 HB2 HORW HOR6 HRC6 HBW6
      go_upto_region 14 with fail
      obtain ⟨bad, hbad⟩ : ∃ bad : Bool, bad = !(decide (ee = 0 ∧ er = 0 ∧ bs = zs)) := ⟨_, rfl⟩
      have HBAD := Lib.hid hbad
      clear hbad
      go_cut [81] (fun s wx => s = .bool bad ∧ wx = w8)
      case first =>
        go_wp2_with fail
        refine HEND.out.mono ?_
        rintro en w9 ⟨rfl, rfl⟩
        by_cases h1 : ee = 0
        · subst h1
          by_cases h2 : er = 0
          · subst h2
            go_wp2_with fail
            refine HEQ.out.mono ?_
            rintro en w9 ⟨rfl, rfl⟩
            go_wp2_with fail
            go_meet
            case rel => exact ⟨by rw [HBAD.out]; simp [eqB], rfl⟩
          · have h2' : (er != 0) = true := by simp [h2]
            have HBB : Hid (bad = true) := Lib.hid (by rw [HBAD.out]; simp [h2])
            clear h2
            go_wp2_with fail
            go_meet
            case rel => exact ⟨by rw [HBB.out], rfl⟩
        · have h1' : (ee != 0) = true := by simp [h1]
          have HBB : Hid (bad = true) := Lib.hid (by rw [HBAD.out]; simp [h1])
          clear h1
          go_wp2_with fail
          go_meet
          case rel => exact ⟨by rw [HBB.out], rfl⟩
      case rest =>
        obtain ⟨rfl, rfl⟩ := hcut
        have x0 := (HR8.out.cells 0).1
        have x1 := (HR8.out.cells 1).1
        have x2 := (HR8.out.cells 2).1
        have x3 := (HR8.out.cells 3).1
        simp only [List.getElem?_toArray, List.getElem?_cons_zero, List.getElem?_cons_succ] at x0 x1 x2 x3
        have r0 := blk_cell HRC8.out 0
        have r1 := blk_cell HRC8.out 1
        have r2 := blk_cell HRC8.out 2
        have r3 := blk_cell HRC8.out 3
        have r0f := blk_frozen HRC8.out 0
        have r1f := blk_frozen HRC8.out 1
        have r2f := blk_frozen HRC8.out 2
        have r3f := blk_frozen HRC8.out 3
        simp only [List.getElem?_toArray, List.getElem?_cons_zero, List.getElem?_cons_succ] at r0 r1 r2 r3
        cases bad
        case' false =>
          have HOK : Hid (rdecA zs = (⟨ck, seen, rs, es⟩, 0)) := Lib.hid (by
            rw [HDEC.out, if_pos]
            have h := HBAD.out
            simpa using h)
          go_wp2
          obtain ⟨wF, hwF⟩ : ∃ wF, wF = (((wc.setCell ⟨w.heap.size, 0, none⟩ (.int .i64 ck)).setCell ⟨w.heap.size, 1, none⟩ (.int .i64 seen)).setCell ⟨w.heap.size, 2, none⟩ (.slice ro rs.length rc)).setCell ⟨w.heap.size, 3, none⟩ (.slice eo es.length ec) := ⟨_, rfl⟩
          rw [← hwF]
          have hk : Keeps (fun i => i = w.heap.size) wc wF := by rw [hwF]; exact ((((Keeps.refl (fun i => i = w.heap.size) wc).setCell (p := ⟨w.heap.size, 0, none⟩) (Or.inl rfl) _).setCell (p := ⟨w.heap.size, 1, none⟩) (Or.inl rfl) _).setCell (p := ⟨w.heap.size, 2, none⟩) (Or.inl rfl) _).setCell (p := ⟨w.heap.size, 3, none⟩) (Or.inl rfl) _
          have hr : wF.heap[w.heap.size]? = some (.cells #[.int .i64 ck, .int .i64 seen, .slice ro rs.length rc, .slice eo es.length ec] 57 (0, 0)) := by rw [hwF]; exact blk_set (blk_set (blk_set (blk_set HRC8.out 0 _) 1 _) 2 _) 3 _
          have q0 := blk_cell hr 0
          have q1 := blk_cell hr 1
          have q2 := blk_cell hr 2
          have q3 := blk_cell hr 3
          simp only [List.getElem?_toArray, List.getElem?_cons_zero, List.getElem?_cons_succ] at q0 q1 q2 q3
          refine bodyPost_ret (v := .tuple #[.agg #[.int .i64 ck, .int .i64 seen, .slice ro rs.length rc, .slice eo es.length ec], .int .i64 0]) (by simp [results, Try.results45, go_sem, q0, q1, q2, q3]) rfl ?_
          rw [HOK.out]
          have ho := HR8.out.own
          have hf := HR8.out.fresh
          have hpl := HR8.out.pl
          exact ⟨ro, rs.length, rc, eo, es.length, ec, rfl, rfl, reps_own (ownsRow_same HOR8.out (fun b hb => hk.block b (HOR8.out.lt b hb).2 (by have := HFR6.out b hb; omega))) rfl, rfl, evs_own (ownsRow_same ho (fun b hb => hk.block b (ho.lt b hb).2 (by have := hf b hb; omega))) rfl, HLR.out, HLE.out, HW8.out.trans (hk.below HW8.out.size (fun i hi => by omega))⟩
        case' true =>
          have HOK : Hid (rdecA zs = (an0, 2)) := Lib.hid (by
            rw [HDEC.out, if_neg]
            rintro ⟨a, b, c⟩
            have h := HBAD.out
            simp [a, b, c] at h)
          go_wp2
          obtain ⟨wF, hwF⟩ : ∃ wF, wF = (((wc.setCell ⟨w.heap.size, 0, none⟩ (.int .i64 0)).setCell ⟨w.heap.size, 1, none⟩ (.int .i64 0)).setCell ⟨w.heap.size, 2, none⟩ (.slice none 0 0)).setCell ⟨w.heap.size, 3, none⟩ (.slice none 0 0) := ⟨_, rfl⟩
          rw [← hwF]
          have hk : Keeps (fun i => i = w.heap.size) wc wF := by rw [hwF]; exact ((((Keeps.refl (fun i => i = w.heap.size) wc).setCell (p := ⟨w.heap.size, 0, none⟩) (Or.inl rfl) _).setCell (p := ⟨w.heap.size, 1, none⟩) (Or.inl rfl) _).setCell (p := ⟨w.heap.size, 2, none⟩) (Or.inl rfl) _).setCell (p := ⟨w.heap.size, 3, none⟩) (Or.inl rfl) _
          have hr : wF.heap[w.heap.size]? = some (.cells #[.int .i64 0, .int .i64 0, .slice none 0 0, .slice none 0 0] 57 (0, 0)) := by rw [hwF]; exact blk_set (blk_set (blk_set (blk_set HRC8.out 0 _) 1 _) 2 _) 3 _
          have q0 := blk_cell hr 0
          have q1 := blk_cell hr 1
          have q2 := blk_cell hr 2
          have q3 := blk_cell hr 3
          simp only [List.getElem?_toArray, List.getElem?_cons_zero, List.getElem?_cons_succ] at q0 q1 q2 q3
          refine bodyPost_ret (v := .tuple #[.agg #[.int .i64 0, .int .i64 0, .slice none 0 0, .slice none 0 0], .int .i64 2]) (by simp [results, Try.results45, go_sem, q0, q1, q2, q3]) rfl ?_
          rw [HOK.out]
          exact ⟨none, 0, 0, none, 0, 0, rfl, rfl, Or.inl rfl, rfl, Or.inl rfl, Nat.zero_le _, Nat.zero_le _, HW8.out.trans (hk.below HW8.out.size (fun i hi => by omega))⟩

end Go.Proofs.Ytadejcpifabpoaa
