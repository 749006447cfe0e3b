/- Contract of req.DecodeAnswer. -/
import Derived.Test.YtadejcpifabpoaaIn5
namespace Go.Proofs.Ytadejcpifabpoaa
open Go.RowKit
set_option linter.unusedVariables false

def DecAPost (w : World) (r : AN × Int) (e : Ending) (w' : World) : Prop :=
  ∃ ro n rc eo m ec, e = .returned (.tuple #[.agg #[.int .i64 r.1.c, .int .i64 r.1.q, .slice ro n rc, .slice eo m ec], .int .i64 r.2]) ∧ r.1.rs.length = n ∧ RepsAt w' ro r.1.rs ∧ r.1.es.length = m ∧ EvsAt w' eo r.1.es ∧ n ≤ rc ∧ rc ≤ maxLen ∧ n ≤ 255 ∧ m ≤ ec ∧ ec ≤ maxLen ∧ evSum r.1.es ≤ 10000000 ∧ Below w.heap.size w w'

theorem Try_infoRep : (Try.prog.info? 94).map (fun i => (i.zero, i.size, i.bytes)) = some (some (.agg #[.int .i64 0, .int .i64 0]), 2, 16) := by kernel_rfl
theorem Try_infoEv : (Try.prog.info? 84).map (fun i => (i.zero, i.size, i.bytes)) = some (some (.agg #[.int .i64 0, .int .i64 0, .int .i64 0, .int .i64 0, .int .i64 0, .int .i64 0, .int .i64 0, .string ⟨#[]⟩, .string ⟨#[]⟩]), 9, 88) := by kernel_rfl
theorem repsIn_size (n : Nat) (st : InS) : (repsIn n st).1.length ≤ n := by
  induction n generalizing st with
  | zero => exact Nat.le_refl _
  | succ n ih =>
    unfold repsIn
    split
    · exact Nat.zero_le _
    · have h1 := ih (repIn st).2
      rw [List.length_cons]
      omega

set_option maxRecDepth 100000 in
set_option maxHeartbeats 8000000 in
theorem decodeAnswer (ao : Option Addr) (zs : List Int) (n cap : Nat) (w : World) (hn : zs.length = n) (h : IntsAt .u8 w ao zs) (hB : InB zs) (hc : n ≤ cap) (hm : cap ≤ maxLen) (hl : n ≤ 10000000) :
    Calls Try.prog 44 #[.slice ao n cap] w (DecAPost w (decA zs)) := by
  obtain ⟨w2, hw2⟩ : ∃ w2, w2 = (w.alloc (.cells #[.int .i64 0, .int .i64 0, .slice none 0 0, .slice none 0 0] 57)).alloc (.cells #[.slice ao n cap, .bool false] 99) := ⟨_, rfl⟩
  obtain ⟨g, hg2, hgl⟩ := in_start (o := .cells #[.int .i64 0, .int .i64 0, .slice none 0 0, .slice none 0 0] 57) 99 hn h hB hc hm (by omega)
  have HB2 : Hid (Below w.heap.size w w2) := Lib.hid (by subst hw2; exact ((Below.refl _ _).alloc (Nat.le_refl _) _).alloc (by simp) _)
  have HS2 : Hid (w2.heap.size = w.heap.size + 2) := Lib.hid (by subst hw2; simp)
  have HR2 : Hid (w2.heap[w.heap.size]? = some (.cells #[.int .i64 0, .int .i64 0, .slice none 0 0, .slice none 0 0] 57 (0, 0))) := Lib.hid (by subst hw2; exact (Below.heap_alloc _ _ _ (by simp)).trans (heap_alloc_new w _))
  rw [← hw2] at hg2
  have HG2 := Lib.hid hg2
  have HW2 := Lib.hid hw2
  have HI := Lib.hid h
  have HN := Lib.hid hn
  have HIB := Lib.hid hB
  clear hg2 hw2 h hn hB
  go_enter Try.func44, Try.ntmps44
  go_wp2_with fail
  rw [← HW2.out]
  refine (in_num (w.heap.size + 1) g 8 (zs, false) w2 HG2.out (by omega)).mono ?_
  rintro en wA ⟨rfl, hiA, hkA⟩
  have HIA := Lib.hid hiA
  have HKA := Lib.hid hkA
  have HBI := Lib.hid (show ansIn zs = (⟨(inNum 8 (zs, false)).1, (inNum 2 (inNum 8 (zs, false)).2).1, (repsIn (inNum 1 (inNum 2 (inNum 8 (zs, false)).2).2).1.toNat (inNum 1 (inNum 2 (inNum 8 (zs, false)).2).2).2).1, (evsIn true (inNum 2 (repsIn (inNum 1 (inNum 2 (inNum 8 (zs, false)).2).2).1.toNat (inNum 1 (inNum 2 (inNum 8 (zs, false)).2).2).2).2).1.toNat (inNum 2 (repsIn (inNum 1 (inNum 2 (inNum 8 (zs, false)).2).2).1.toNat (inNum 1 (inNum 2 (inNum 8 (zs, false)).2).2).2).2).2).1⟩, (evsIn true (inNum 2 (repsIn (inNum 1 (inNum 2 (inNum 8 (zs, false)).2).2).1.toNat (inNum 1 (inNum 2 (inNum 8 (zs, false)).2).2).2).2).1.toNat (inNum 2 (repsIn (inNum 1 (inNum 2 (inNum 8 (zs, false)).2).2).1.toNat (inNum 1 (inNum 2 (inNum 8 (zs, false)).2).2).2).2).2).2) from rfl)
  generalize inNum 8 (zs, false) = SA at *
  obtain ⟨ck, stA⟩ := SA
  clear hiA hkA
  go_wp2_with fail
  refine (in_num (w.heap.size + 1) g 2 stA wA HIA.out (by omega)).mono ?_
  rintro en w3 ⟨rfl, hi3, hk3⟩
  have HI3 := Lib.hid hi3
  have HK3 : Hid (Keeps (fun i => i = w.heap.size + 1) w2 w3) := Lib.hid (HKA.out.trans hk3 (fun i hi => Or.inl hi))
  generalize inNum 2 stA = S2 at *
  obtain ⟨seen, st2⟩ := S2
  clear hi3 hk3 HKA HIA
  go_wp2_with fail
  obtain ⟨w4, hw4⟩ : ∃ w4, w4 = w3.alloc (.cells #[.int .i64 ck, .int .i64 seen, .slice none 0 0, .slice none 0 0] 57) := ⟨_, rfl⟩
  rw [← hw4]
  have HX4 : Hid (w4.heap[w3.heap.size]? = some (.cells #[.int .i64 ck, .int .i64 seen, .slice none 0 0, .slice none 0 0] 57 (0, 0))) := Lib.hid (by subst hw4; exact heap_alloc_new w3 _)
  have HB4 : Hid (Below w3.heap.size w3 w4) := Lib.hid (by subst hw4; exact (Below.refl _ _).alloc (Nat.le_refl _) _)
  have hsz3 := HK3.out.size
  have hsz2 := HS2.out
  clear hw4
  refine (in_num (w.heap.size + 1) g 1 st2 w4 (HI3.out.below HB4.out) (by omega)).mono ?_
  rintro en w5 ⟨rfl, hi5, hk5⟩
  have HLT := Lib.hid (inNum_lt 1 st2 HI3.out.inB)
  generalize inNum 1 st2 = S1 at *
  obtain ⟨N, st1⟩ := S1
  have HRB : Hid (RowBox w5 w5 (w.heap.size + 1) g w3.heap.size 57 #[.int .i64 ck, .int .i64 seen, .slice none 0 0, .slice none 0 0] 94 2 (.slice none 0 0) 0 [] st1) := Lib.hid (RowBox.start _ _ hi5 ((hk5.block _ (blk_lt HX4.out) (by omega)).trans HX4.out) (by omega) (by omega))
  have HR5 : Hid (w5.heap[w.heap.size]? = some (.cells #[.int .i64 0, .int .i64 0, .slice none 0 0, .slice none 0 0] 57 (0, 0))) := Lib.hid (by
    have a3 := (HK3.out.block _ (blk_lt HR2.out) (by omega)).trans HR2.out
    have a4 := (HB4.out.block _ (blk_lt a3)).trans a3
    exact (hk5.block _ (blk_lt a4) (by omega)).trans a4)
  have HB5 : Hid (Below w.heap.size w w5) := Lib.hid (by
    have b3 := HB2.out.trans (HK3.out.below (B := w.heap.size) HB2.out.size (fun i hi => by omega))
    have b4 := b3.trans (HB4.out.mono b3.size)
    exact b4.trans (hk5.below (B := w.heap.size) b4.size (fun i hi => by omega)))
  obtain ⟨N0, rfl⟩ := Int.eq_ofNat_of_zero_le HLT.out.1
  have HN255 : Hid (N0 ≤ 255) := Lib.hid (by
    have h1 : (N0 : Int) < 256 ^ 1 := HLT.out.2
    have e : (256 : Int) ^ 1 = 256 := by decide
    rw [e] at h1
    omega)
  simp only [Int.toNat_natCast] at HBI
  have hX : w3.heap.size = w3.heap.size := rfl
  have hXR : w.heap.size + 1 < w3.heap.size := by omega
  clear hi5 hk5 HX4 HLT HI3 HK3 HB4
  generalize w3.heap.size = X at *
  go_wp2_with fail
  go_loopw [6] (fun i wr => ∃ m v rs st', i = .int .i64 (m : Nat) ∧ repsIn N0 st1 = (rs ++ (repsIn m st').1, (repsIn m st').2) ∧ rs.length + m ≤ 255 ∧ RowBox w5 wr (w.heap.size + 1) g X 57 #[.int .i64 ck, .int .i64 seen, v, .slice none 0 0] 94 2 v rs.length (rs.flatMap (fun r => (RP.cells r).toList)) st') (fun i _ => (intOf i).toNat)
  case atStart => exact ⟨N0, .slice none 0 0, [], st1, rfl, rfl, by have := HN255.out; simpa using this, HRB.out⟩
  case round =>
    obtain ⟨m, v, rs, st', rfl, hev, hlen, hrb⟩ := hrel
    have HEV := Lib.hid hev
    have HRW := Lib.hid hrb
    obtain ⟨ao', cap', c0, c1, f0, f1, _, _, _⟩ := hrb.rd.cells
    have x0 := (hrb.cells 0).1
    have x1 := (hrb.cells 1).1
    have x2 := (hrb.cells 2).1
    have x3 := (hrb.cells 3).1
    have y2 := (hrb.cells 2).2
    simp only [List.getElem?_toArray, List.getElem?_cons_zero, List.getElem?_cons_succ] at x0 x1 x2 x3
    clear hrb hev
    by_cases hgo : m ≠ 0 ∧ st'.2 = false
    · obtain ⟨hm0, hbad⟩ := hgo
      rw [hbad] at c1
      obtain ⟨m', rfl⟩ : ∃ m', m = m' + 1 := ⟨m - 1, by omega⟩
      have HSTEP : Hid (repsIn (m' + 1) st' = ((repIn st').1 :: (repsIn m' (repIn st').2).1, (repsIn m' (repIn st').2).2)) := Lib.hid (by
        show (if st'.2 = true then _ else _) = _
        rw [hbad]; rfl)
      unfold repIn at HSTEP
      have HRD := Lib.hid HRW.out.drew
      have HC1 := Lib.hid (in_num (w.heap.size + 1) g 1 st' wr.drew HRD.out.rd (by omega))
      have HC2 := Lib.hid (fun w6 hi6 => in_num (w.heap.size + 1) g 2 (inNum 1 st').2 w6 hi6 (by omega))
      unfold NumIn at HC1 HC2
      have hXl := blk_lt HRW.out.box
      generalize inNum 1 st' = E at *
      obtain ⟨c1', s1'⟩ := E
      generalize inNum 2 (c1', s1').2 = E2 at *
      obtain ⟨i1', st1'⟩ := E2
      have hmi : (0 : Int) < ((m' + 1 : Nat) : Int) := by omega
      have hgl2 := hgl
      obtain ⟨i0, hi0, hz0, hz1, hz2⟩ := info_parts Try_infoRep
      clear hbad
      have HL := Lib.hid (show rs.length + 1 ≤ 255 by omega)
      go_wp2_with fail
      go_region_law (first
        | (go_simp; go_at_call 65; refine HC2'.out.mono ?_; rintro en w7 ⟨rfl, hi7, hk7⟩; have HR7 := Lib.hid (HR6.out.read hk7 hi7); have k2 : w7.cell? ⟨X, 2, none⟩ = some v := (HR7.out.cells 2).1; have k2f := (HR7.out.cells 2).2; have k2l := blk_lt HR7.out.box; clear hi7 hk7)
        | (go_simp; go_at_call 65; refine HC1.out.mono ?_; rintro en w6 ⟨rfl, hi6, hk6⟩; have HR6 := Lib.hid (HRD.out.read hk6 hi6); have k1 : w6.cell? ⟨X, 2, none⟩ = some v := (HR6.out.cells 2).1; have k1f := (HR6.out.cells 2).2; have HC2' := Lib.hid (HC2.out w6 hi6); clear hi6 hk6)
        | (refine step_append_any (by rfl) _ _ 54 (by rfl) 94 i0 _ 2 16 Try.underlying54 hi0 hz0 hz1 hz2 rfl (by decide) v rs.length (rs.flatMap (fun r => (RP.cells r).toList)) (by rfl) (HR7.out.own.alloc _) (some ⟨w7.heap.size, 0, none⟩) 1 1 (RP.cells (c1', i1')).toList (by rfl) (by rfl) (fun e => by cases e) (fun ad had => by cases had; exact World.news_of_block (heap_alloc_new _ _)) (by simp [Value.oneCell', RP.cells]) (by have := HL.out; unfold maxLen; omega) (by have := HL.out; omega) ?_; intro ao2 cap2 w8 hown hgrow hat hnn; have HR8 := Lib.hid ((HR7.out.below ((Below.refl _ _).alloc (Nat.le_refl _) _)).grow hown hgrow (fun b hb => (hat b hb).imp id (fun e => by rw [e]; exact Nat.le_refl _)) 2); have kne : v.ownBlock ≠ some X := (fun e => absurd (HR7.out.fresh X e) (by have := HR7.out.xl; omega)); have k3 : w8.cell? ⟨X, 2, none⟩ = some v := ((hgrow.cell_far _ (by simp; omega) (Ne.symm kne)).trans ((World.cell?_alloc_past _ _ _ k2l).trans k2)); have k3f : w8.frozen? ⟨X, 2, none⟩ = false := ((hgrow.frozen_far _ (by simp; omega) (Ne.symm kne)).trans ((World.frozen?_alloc_past _ _ _ k2l).trans k2f))))
      all_goals
        have HR9 := Lib.hid HR8.out
        clear HR8 HR7 HR6
        go_wp2
        go_roundw
        case rel => exact ⟨m', _, rs ++ [(c1', i1')], st1', by simp, by rw [HEV.out, HSTEP.out]; simp, by simp; omega, by simpa using HR9.out⟩
        case measure => simp [intOf]
    · have HFIN : Hid (repsIn N0 st1 = (rs, st')) := Lib.hid (by
        rw [HEV.out]
        have e : repsIn m st' = ([], st') := by
          cases m with
          | zero => rfl
          | succ k =>
            have hb : st'.2 = true := by
              cases h : st'.2
              · exact absurd ⟨Nat.succ_ne_zero k, h⟩ hgo
              · rfl
            show (if st'.2 = true then _ else _) = _
            rw [hb]; rfl
        rw [e]; simp)
      obtain ⟨ro, rc, hv, hrcl, hrcm⟩ := own_shape HRW.out.own
      subst hv
      have HLR : Hid (rs.length ≤ 255) := Lib.hid (by
        have h := repsIn_size N0 st1
        rw [HFIN.out] at h
        have h2 := HN255.out
        simp only at h; omega)
      have HBW : Hid (Below w.heap.size w wr) := Lib.hid (HB5.out.trans (HRW.out.keep.below (B := w.heap.size) HB5.out.size (fun i hi => by omega)))
      have HRC : Hid (wr.heap[w.heap.size]? = some (.cells #[.int .i64 0, .int .i64 0, .slice none 0 0, .slice none 0 0] 57 (0, 0))) := Lib.hid ((HRW.out.keep.block _ (blk_lt HR5.out) (fun h => by omega)).trans HR5.out)
      have HXB := Lib.hid HRW.out.box
      have HRRD := Lib.hid HRW.out.rd
      have HOWR := Lib.hid HRW.out.own
      have HFRR : Hid (∀ b, (Value.slice ro rs.length rc).ownBlock = some b → w.heap.size + 1 < b ∧ X < b ∧ g < b) := Lib.hid (fun b hb => by
        have h1 := HRW.out.fresh b hb
        have h2 := HRW.out.pl
        have h3 := HRW.out.xl
        have h4 := HRW.out.gl
        omega)
      have HBAD : Hid (m ≠ 0 → st'.2 = true) := Lib.hid (by
        intro h0
        cases h : st'.2
        · exact absurd ⟨h0, h⟩ hgo
        · rfl)
      have hXg : g ≠ X := HRW.out.gX
      have HBI2 : Hid (ansIn zs = (⟨ck, seen, rs, (evsIn true (inNum 2 st').1.toNat (inNum 2 st').2).1⟩, (evsIn true (inNum 2 st').1.toNat (inNum 2 st').2).2)) := Lib.hid (by
        have h := HBI.out
        simp only [HFIN.out] at h
        exact h)
      clear hgo HRW HRB HR5 HB5 HR2 HB2 HS2 HG2 HW2 HBI HFIN HEV
      generalize hst : st' = st2' at *
      have HBD2 : Hid (m ≠ 0 → st2'.2 = true) := HBAD
      clear hst
      by_cases hm0 : m = 0
      case' pos =>
        subst hm0
        go_wp2_with fail
      case' neg =>
        have hbad := HBAD.out hm0
        rw [hbad] at c1
        have hmi : (0 : Int) < (m : Int) := by omega
        clear hbad
        go_wp2_with fail
      all_goals
        refine (in_num (w.heap.size + 1) g 2 st2' wr HRRD.out (by omega)).mono ?_
        rintro en w6 ⟨rfl, hi6, hk6⟩
        have HLT := Lib.hid (inNum_lt 2 st2' HRRD.out.inB)
        generalize inNum 2 st2' = S3 at *
        obtain ⟨M, st3⟩ := S3
        have HRE : Hid (RowBox w6 w6 (w.heap.size + 1) g X 57 #[.int .i64 ck, .int .i64 seen, .slice ro rs.length rc, .slice none 0 0] 84 9 (.slice none 0 0) 0 [] st3) := Lib.hid (RowBox.start _ _ hi6 ((hk6.block _ (blk_lt HXB.out) (by omega)).trans HXB.out) (by omega) (by omega))
        have HR6 : Hid (w6.heap[w.heap.size]? = some (.cells #[.int .i64 0, .int .i64 0, .slice none 0 0, .slice none 0 0] 57 (0, 0))) := Lib.hid ((hk6.block _ (blk_lt HRC.out) (by omega)).trans HRC.out)
        have HB6 : Hid (Below w.heap.size w w6) := Lib.hid (HBW.out.trans (hk6.below (B := w.heap.size) HBW.out.size (fun i hi => by omega)))
        have HOR6 : Hid (w6.ownsRow 0 94 2 (.slice ro rs.length rc) rs.length (rs.flatMap (fun r => (RP.cells r).toList))) := Lib.hid (ownsRow_same HOWR.out (fun b hb => hk6.block b (HOWR.out.lt b hb).2 (by have := HFRR.out b hb; omega)))
        obtain ⟨M0, rfl⟩ := Int.eq_ofNat_of_zero_le HLT.out.1
        have HM : Hid (M0 ≤ 65535) := Lib.hid (by
          have h1 : (M0 : Int) < 256 ^ 2 := HLT.out.2
          have e : (256 : Int) ^ 2 = 65536 := by decide
          rw [e] at h1
          omega)
        simp only [Int.toNat_natCast] at HBI2
        clear hi6 hk6 HLT HRRD HXB HRC HBW HOWR HBAD HBD2 c0 c1 f0 f1 x0 x1 x2 x3 y2
        go_wp2_with fail
        go_loopw [7] (fun i wr => ∃ m v es st', i = .int .i64 (m : Nat) ∧ evsIn true M0 st3 = (es ++ (evsIn true m st').1, (evsIn true m st').2) ∧ es.length + m ≤ M0 ∧ RowBox w6 wr (w.heap.size + 1) g X 57 #[.int .i64 ck, .int .i64 seen, .slice ro rs.length rc, v] 84 9 v es.length (es.flatMap (fun r => r.cells.toList)) st') (fun i _ => (intOf i).toNat)
        case atStart => exact ⟨M0, .slice none 0 0, [], st3, rfl, rfl, by simp, HRE.out⟩
        case round =>
          obtain ⟨k, v, es, st', rfl, hev, hlen2, hrb⟩ := hrel
          have HEV := Lib.hid hev
          have HRW := Lib.hid hrb
          have HLE := Lib.hid hlen2
          clear hlen2
          obtain ⟨ao', cap', c0, c1, f0, f1, _, _, _⟩ := hrb.rd.cells
          have x0 := (hrb.cells 0).1
          have x1 := (hrb.cells 1).1
          have x2 := (hrb.cells 2).1
          have x3 := (hrb.cells 3).1
          have y3 := (hrb.cells 3).2
          simp only [List.getElem?_toArray, List.getElem?_cons_zero, List.getElem?_cons_succ] at x0 x1 x2 x3
          clear hrb hev
          by_cases hgo : k ≠ 0 ∧ st'.2 = false
          · obtain ⟨hm0, hbad⟩ := hgo
            rw [hbad] at c1
            obtain ⟨m', rfl⟩ : ∃ m', k = m' + 1 := ⟨k - 1, by omega⟩
            have HSTEP : Hid (evsIn true (m' + 1) st' = ((evIn true st').1 :: (evsIn true m' (evIn true st').2).1, (evsIn true m' (evIn true st').2).2)) := Lib.hid (by
              show (if st'.2 = true then _ else _) = _
              rw [hbad]; rfl)
            have HRD := Lib.hid HRW.out.drew
            have HIE := Lib.hid (in_event (w.heap.size + 1) g true st' wr.drew HRD.out.rd)
            unfold EvIn EV.cells at HIE
            have hXl := blk_lt HRW.out.box
            generalize evIn true st' = E at *
            obtain ⟨e1, st1'⟩ := E
            have hmi : (0 : Int) < ((m' + 1 : Nat) : Int) := by omega
            have hgl2 := hgl
            obtain ⟨i0, hi0, hz0, hz1, hz2⟩ := info_parts Try_infoEv
            clear hbad
            have HL : Hid (es.length + 1 ≤ 65535) := Lib.hid (by have h1 := HLE.out; have h2 := HM.out; omega)
            have hmu : m' + 1 ≤ 65535 := by have h1 := HLE.out; have h2 := HM.out; omega
            go_wp2_with fail
            go_region_law (first
              | (go_simp; go_at_call 66; refine HIE.out.mono ?_; rintro en w7 ⟨rfl, hi7, hk7⟩; have HR7 := Lib.hid (HRD.out.read hk7 hi7); have k2 : w7.cell? ⟨X, 3, none⟩ = some v := (HR7.out.cells 3).1; have k2f := (HR7.out.cells 3).2; have k2l := blk_lt HR7.out.box; clear hi7 hk7)
              | (refine step_append_any (by rfl) _ _ 55 (by rfl) 84 i0 _ 9 88 Try.underlying55 hi0 hz0 hz1 hz2 rfl (by decide) v es.length (es.flatMap (fun r => r.cells.toList)) (by rfl) (HR7.out.own.alloc _) (some ⟨w7.heap.size, 0, none⟩) 1 1 e1.cells.toList (by rfl) (by rfl) (fun e => by cases e) (fun ad had => by cases had; exact World.news_of_block (heap_alloc_new _ _)) (by simp [Value.oneCell', EV.cells]) (by have := HL.out; unfold maxLen; omega) (by have := HL.out; omega) ?_; intro ao2 cap2 w8 hown hgrow hat hnn; have HR8 := Lib.hid ((HR7.out.below ((Below.refl _ _).alloc (Nat.le_refl _) _)).grow hown hgrow (fun b hb => (hat b hb).imp id (fun e => by rw [e]; exact Nat.le_refl _)) 3); have kne : v.ownBlock ≠ some X := (fun e => absurd (HR7.out.fresh X e) (by have := HR7.out.xl; omega)); have k3 : w8.cell? ⟨X, 3, none⟩ = some v := ((hgrow.cell_far _ (by simp; omega) (Ne.symm kne)).trans ((World.cell?_alloc_past _ _ _ k2l).trans k2)); have k3f : w8.frozen? ⟨X, 3, none⟩ = false := ((hgrow.frozen_far _ (by simp; omega) (Ne.symm kne)).trans ((World.frozen?_alloc_past _ _ _ k2l).trans k2f))))
            all_goals
              have HR9 := Lib.hid HR8.out
              clear HR8 HR7
              go_wp2
              go_roundw
              case rel => exact ⟨m', _, es ++ [e1], st1', by simp, by rw [HEV.out, HSTEP.out]; simp, by have := HLE.out; simp; omega, by simpa using HR9.out⟩
              case measure => simp [intOf]
          · have HFIN : Hid (evsIn true M0 st3 = (es, st')) := Lib.hid (by
              rw [HEV.out]
              have e : evsIn true k st' = ([], st') := by
                cases k with
                | zero => rfl
                | succ k =>
                  have hb : st'.2 = true := by
                    cases h : st'.2
                    · exact absurd ⟨Nat.succ_ne_zero k, h⟩ hgo
                    · rfl
                  show (if st'.2 = true then _ else _) = _
                  rw [hb]; rfl
              rw [e]; simp)
            obtain ⟨eo, ec, hv, hecl, hecm⟩ := own_shape HRW.out.own
            subst hv
            have HSUM : Hid (evSum es ≤ 10000000 ∧ es.length ≤ 65535) := Lib.hid (by
              have h := evsIn_size true M0 st3
              rw [HFIN.out] at h
              have h2 := HM.out
              simp only at h; omega)
            have HBW : Hid (Below w.heap.size w wr) := Lib.hid (HB6.out.trans (HRW.out.keep.below (B := w.heap.size) HB6.out.size (fun i hi => by omega)))
            have HRC : Hid (wr.heap[w.heap.size]? = some (.cells #[.int .i64 0, .int .i64 0, .slice none 0 0, .slice none 0 0] 57 (0, 0))) := Lib.hid ((HRW.out.keep.block _ (blk_lt HR6.out) (fun h => by omega)).trans HR6.out)
            have HZS := Lib.hid (ints_below HI.out HBW.out)
            have HORW : Hid (wr.ownsRow 0 94 2 (.slice ro rs.length rc) rs.length (rs.flatMap (fun r => (RP.cells r).toList))) := Lib.hid (ownsRow_same HOR6.out (fun b hb => HRW.out.keep.block b (HOR6.out.lt b hb).2 (by have := HFRR.out b hb; omega)))
            have HDEC : Hid (decA zs = if st'.2 = false ∧ (ansF ck seen rs es).2 = 0 ∧ (ansF ck seen rs es).1 = zs then (⟨ck, seen, rs, es⟩, 0) else (an0, 2)) := Lib.hid (by
              unfold decA
              rw [HBI2.out, HFIN.out]
              rfl)
            have HENC := Lib.hid (encodeAnswer ck seen ro rs rs.length rc eo es es.length ec wr rfl (reps_own HORW.out rfl) rfl (evs_own HRW.out.own rfl) (by have := HSUM.out.1; omega))
            have HEI := Lib.hid (ansF_in ck seen rs es)
            generalize hE : ansF ck seen rs es = E at *
            obtain ⟨bs, er⟩ := E
            clear hE
            have HBAD : Hid (k ≠ 0 → st'.2 = true) := Lib.hid (by
              intro h0
              cases h : st'.2
              · exact absurd ⟨h0, h⟩ hgo
              · rfl)
            have HXB := Lib.hid HRW.out.box
            have HPB : Hid (∃ v0, wr.heap[w.heap.size + 1]? = some (.cells #[v0, .bool st'.2] 99 (0, 0))) := Lib.hid (by
              obtain ⟨ao1, c1', h1, _⟩ := HRW.out.rd
              exact ⟨_, h1⟩)
            have HQF : Hid (∀ wA wF : World, Below wr.heap.size wr wA → Keeps (fun i => i = w.heap.size) wA wF → RepsAt wF ro rs ∧ EvsAt wF eo es) := Lib.hid (by
              intro wA wF hbA hk
              have ho := HRW.out.own
              have hpl := HRW.out.pl
              constructor
              · exact reps_own (ownsRow_same HORW.out (fun b hb => by
                  have l := (HORW.out.lt b hb).2
                  have f := HFRR.out b hb
                  have l6 := hbA.size
                  exact (hk.block b (by omega) (by omega)).trans (hbA.block b l))) rfl
              · exact evs_own (ownsRow_same ho (fun b hb => by
                  have l := (ho.lt b hb).2
                  have f := HRW.out.fresh b hb
                  have l6 := hbA.size
                  exact (hk.block b (by omega) (by omega)).trans (hbA.block b l))) rfl)
            clear hgo HFIN HEV HBI2 HOR6 HRE HR6 HB6 HM HORW HI
            generalize hbb : st'.2 = bad at *
            clear hbb
            have HFIX : Hid (∀ wB, Below wr.heap.size wr wB → (wB.cell? ⟨w.heap.size + 1, 1, none⟩ = some (.bool bad) ∧ wB.frozen? ⟨w.heap.size + 1, 1, none⟩ = false) ∧ (wB.cell? ⟨X, 0, none⟩ = some (.int .i64 ck) ∧ wB.cell? ⟨X, 1, none⟩ = some (.int .i64 seen) ∧ wB.cell? ⟨X, 2, none⟩ = some (.slice ro rs.length rc) ∧ wB.cell? ⟨X, 3, none⟩ = some (.slice eo es.length ec)) ∧
                (wB.cell? ⟨w.heap.size, 0, none⟩ = some (.int .i64 0) ∧ wB.frozen? ⟨w.heap.size, 0, none⟩ = false) ∧ (wB.cell? ⟨w.heap.size, 1, none⟩ = some (.int .i64 0) ∧ wB.frozen? ⟨w.heap.size, 1, none⟩ = false) ∧ (wB.cell? ⟨w.heap.size, 2, none⟩ = some (.slice none 0 0) ∧ wB.frozen? ⟨w.heap.size, 2, none⟩ = false) ∧ (wB.cell? ⟨w.heap.size, 3, none⟩ = some (.slice none 0 0) ∧ wB.frozen? ⟨w.heap.size, 3, none⟩ = false) ∧ wB.heap[w.heap.size]? = some (.cells #[.int .i64 0, .int .i64 0, .slice none 0 0, .slice none 0 0] 57 (0, 0)) ∧ Below w.heap.size w wB ∧ IntsAt .u8 wB ao zs) := Lib.hid (by
              intro wB hb6
              obtain ⟨v0, hpb⟩ := HPB.out
              have p6 := (hb6.block _ (blk_lt hpb)).trans hpb
              have x6 := (hb6.block _ (blk_lt HXB.out)).trans HXB.out
              have r6 := (hb6.block _ (blk_lt HRC.out)).trans HRC.out
              exact ⟨⟨blk_cell p6 1, blk_frozen p6 1⟩, ⟨blk_cell x6 0, blk_cell x6 1, blk_cell x6 2, blk_cell x6 3⟩, ⟨blk_cell r6 0, blk_frozen r6 0⟩, ⟨blk_cell r6 1, blk_frozen r6 1⟩, ⟨blk_cell r6 2, blk_frozen r6 2⟩, ⟨blk_cell r6 3, blk_frozen r6 3⟩, r6, HBW.out.trans (hb6.mono HBW.out.size), ints_below HZS.out hb6⟩)
            clear HRW
            by_cases hm0 : k = 0
            case' pos =>
              subst hm0
              go_wp2_with fail
            case' neg =>
              have hbad := HBAD.out hm0
              rw [hbad] at c1
              have hmi : (0 : Int) < (k : Int) := by omega
              clear hbad
              go_wp2_with fail
            all_goals
              refine HENC.out.mono ?_
              rintro en w7 ⟨bo, bcap, rfl, hx7, hb7, _⟩
              obtain ⟨⟨b6, b6f⟩, ⟨s0, s1, s2, s3⟩, ⟨r0, r0f⟩, ⟨r1, r1f⟩, ⟨r2, r2f⟩, ⟨r3, r3f⟩, hr6, hw6, hz6⟩ := HFIX.out w7 hb7
              have HEQ := Lib.hid (bytes_equal bo ao bs zs bs.length n bcap cap w7 rfl HN.out hx7 hz6 HEI.out HIB.out)
              have HW6 := Lib.hid hw6
              have HR6 := Lib.hid hr6
              have HQS := Lib.hid (fun wF hk => HQF.out w7 wF hb7 hk)
              clear hx7 hz6 hw6 hr6 hb7 c0 c1 f0 f1 x0 x1 x2 x3 y3
              have hLR : w.heap.size < w7.heap.size := blk_lt HR6.out
              by_cases hok : bad = false ∧ er = 0 ∧ bs = zs
              case' pos =>
                first
                | exact absurd (hok.1.symm.trans (HBAD.out hm0)) (by decide)
                | skip
                all_goals
                  obtain ⟨rfl, rfl, rfl⟩ := hok
                  go_wp2_with fail
                  refine HEQ.out.mono ?_
                  rintro en w8 ⟨rfl, rfl⟩
                  rw [eqB_self]
                  go_wp2_with fail
                  obtain ⟨wF, hwF⟩ : ∃ wF, wF = (((w7.setCell ⟨w.heap.size, 0, none⟩ (.int .i64 ck)).setCell ⟨w.heap.size, 1, none⟩ (.int .i64 seen)).setCell ⟨w.heap.size, 2, none⟩ (.slice ro rs.length rc)).setCell ⟨w.heap.size, 3, none⟩ (.slice eo es.length ec) := ⟨_, rfl⟩
                  rw [← hwF]
                  have hk : Keeps (fun i => i = w.heap.size) w7 wF := by rw [hwF]; exact ((((Keeps.refl (fun i => i = w.heap.size) w7).setCell (p := ⟨w.heap.size, 0, none⟩) (Or.inl rfl) _).setCell (p := ⟨w.heap.size, 1, none⟩) (Or.inl rfl) _).setCell (p := ⟨w.heap.size, 2, none⟩) (Or.inl rfl) _).setCell (p := ⟨w.heap.size, 3, none⟩) (Or.inl rfl) _
                  have hr : wF.heap[w.heap.size]? = some (.cells #[.int .i64 ck, .int .i64 seen, .slice ro rs.length rc, .slice eo es.length ec] 57 (0, 0)) := by rw [hwF]; exact blk_set (blk_set (blk_set (blk_set HR6.out 0 _) 1 _) 2 _) 3 _
                  have q0 := blk_cell hr 0
                  have q1 := blk_cell hr 1
                  have q2 := blk_cell hr 2
                  have q3 := blk_cell hr 3
                  simp only [List.getElem?_toArray, List.getElem?_cons_zero, List.getElem?_cons_succ] at q0 q1 q2 q3
                  refine bodyPost_ret (v := .tuple #[.agg #[.int .i64 ck, .int .i64 seen, .slice ro rs.length rc, .slice eo es.length ec], .int .i64 0]) (by simp [results, Try.results44, go_sem, q0, q1, q2, q3]) rfl ?_
                  rw [HDEC.out, if_pos (by simp)]
                  exact ⟨ro, rs.length, rc, eo, es.length, ec, rfl, rfl, (HQS.out wF hk).1, rfl, (HQS.out wF hk).2, hrcl, hrcm, HLR.out, hecl, hecm, HSUM.out.1, HW6.out.trans (hk.below HW6.out.size (fun i hi => by omega))⟩
              case' neg =>
                have HDC : Hid (decA zs = (an0, 2)) := Lib.hid (by rw [HDEC.out, if_neg hok])
                by_cases hb1 : bad = true
                case' pos =>
                  obtain rfl := hb1
                  clear hok
                  go_wp2_with fail
                case' neg =>
                  by_cases he0 : er = 0
                  case' pos =>
                    obtain rfl := he0
                    have hq : eqB bs zs = false := by
                      unfold eqB
                      simp only [decide_eq_false_iff_not]
                      intro h
                      exact hok ⟨by simpa using hb1, rfl, h⟩
                    obtain rfl : bad = false := by simpa using hb1
                    clear hok hb1
                    go_wp2_with fail
                    refine HEQ.out.mono ?_
                    rintro en w8 ⟨rfl, rfl⟩
                    rw [hq]
                    go_wp2_with fail
                  case' neg =>
                    obtain rfl : bad = false := by simpa using hb1
                    have hne : (er != 0) = true := by simp [he0]
                    clear hok hb1
                    go_wp2_with fail
                all_goals
                  obtain ⟨wF, hwF⟩ : ∃ wF, wF = (((w7.setCell ⟨w.heap.size, 0, none⟩ (.int .i64 0)).setCell ⟨w.heap.size, 1, none⟩ (.int .i64 0)).setCell ⟨w.heap.size, 2, none⟩ (.slice none 0 0)).setCell ⟨w.heap.size, 3, none⟩ (.slice none 0 0) := ⟨_, rfl⟩
                  rw [← hwF]
                  have hk : Keeps (fun i => i = w.heap.size) w7 wF := by rw [hwF]; exact ((((Keeps.refl (fun i => i = w.heap.size) w7).setCell (p := ⟨w.heap.size, 0, none⟩) (Or.inl rfl) _).setCell (p := ⟨w.heap.size, 1, none⟩) (Or.inl rfl) _).setCell (p := ⟨w.heap.size, 2, none⟩) (Or.inl rfl) _).setCell (p := ⟨w.heap.size, 3, none⟩) (Or.inl rfl) _
                  have hr : wF.heap[w.heap.size]? = some (.cells #[.int .i64 0, .int .i64 0, .slice none 0 0, .slice none 0 0] 57 (0, 0)) := by rw [hwF]; exact blk_set (blk_set (blk_set (blk_set HR6.out 0 _) 1 _) 2 _) 3 _
                  have q0 := blk_cell hr 0
                  have q1 := blk_cell hr 1
                  have q2 := blk_cell hr 2
                  have q3 := blk_cell hr 3
                  simp only [List.getElem?_toArray, List.getElem?_cons_zero, List.getElem?_cons_succ] at q0 q1 q2 q3
                  refine bodyPost_ret (v := .tuple #[.agg #[.int .i64 0, .int .i64 0, .slice none 0 0, .slice none 0 0], .int .i64 2]) (by simp [results, Try.results44, go_sem, q0, q1, q2, q3]) rfl ?_
                  rw [HDC.out]
                  exact ⟨none, 0, 0, none, 0, 0, rfl, rfl, Or.inl rfl, rfl, Or.inl rfl, Nat.le_refl _, Nat.zero_le _, Nat.zero_le _, Nat.le_refl _, Nat.zero_le _, Nat.zero_le _, HW6.out.trans (hk.below HW6.out.size (fun i hi => by omega))⟩

end Go.Proofs.Ytadejcpifabpoaa
