/- Contract of req.DecodeBatch. -/
import Derived.Test.YtadejcpifabpoaaIn4
namespace Go.Proofs.Ytadejcpifabpoaa
open Go.RowKit
set_option linter.unusedVariables false

theorem bytesOf_le (n : Nat) (st : InS) : (bytesOf (inBytes n st).1).size ≤ n := by
  rw [bytesOf_size]
  unfold inBytes
  split
  · simp
  · simp; omega
theorem stepIn_size (x : EV × InS) (c : Int) (h : x.1.h.size ≤ 32 ∧ x.1.s.size ≤ 32) : (stepIn x c).1.h.size ≤ 32 ∧ (stepIn x c).1.s.size ≤ 32 := by
  unfold stepIn
  split
  · rename_i j z hc
    obtain ⟨h1, h2, _, _⟩ := numSign_in hc
    have e : ∀ v, (x.1.setN v j).h = x.1.h ∧ (x.1.setN v j).s = x.1.s := by
      intro v
      match j, h2 with
      | 0, _ => exact ⟨rfl, rfl⟩
      | 1, _ => exact ⟨rfl, rfl⟩
      | 2, _ => exact ⟨rfl, rfl⟩
      | 3, _ => exact ⟨rfl, rfl⟩
      | 4, _ => exact ⟨rfl, rfl⟩
      | 5, _ => exact ⟨rfl, rfl⟩
      | 6, _ => exact ⟨rfl, rfl⟩
    simp only [e]
    exact h
  · have := bytesOf_le 32 x.2
    unfold EV.setT
    split
    · exact ⟨this, h.2⟩
    · exact ⟨h.1, this⟩
theorem foldIn_size (nm : List Int) (x : EV × InS) (h : x.1.h.size ≤ 32 ∧ x.1.s.size ≤ 32) : (nm.foldl stepIn x).1.h.size ≤ 32 ∧ (nm.foldl stepIn x).1.s.size ≤ 32 := by
  induction nm generalizing x with
  | nil => exact h
  | cons c nm ih => exact ih _ (stepIn_size x c h)
theorem evIn_size (ev : Bool) (st : InS) : (evIn ev st).1.h.size ≤ 32 ∧ (evIn ev st).1.s.size ≤ 32 := foldIn_size _ _ ⟨Nat.zero_le _, Nat.zero_le _⟩
theorem evsIn_size (ev : Bool) (n : Nat) (st : InS) : (evsIn ev n st).1.length ≤ n ∧ evSum (evsIn ev n st).1 ≤ 64 * n := by
  induction n generalizing st with
  | zero => exact ⟨Nat.le_refl _, Nat.le_refl _⟩
  | succ n ih =>
    unfold evsIn
    split
    · exact ⟨Nat.zero_le _, Nat.zero_le _⟩
    · have h1 := ih (evIn ev st).2
      have h2 := evIn_size ev st
      have h3 : ∀ (e : EV) l, evSum (e :: l) = e.h.size + e.s.size + evSum l := fun e l => by simp [evSum]
      rw [List.length_cons, h3]
      omega
theorem rqSum_ev (es : List EV) : rqSum (es.map EV.rq) = evSum es := by
  unfold rqSum evSum
  rw [List.map_map]
  rfl
theorem inNum_lt (k : Nat) (st : InS) (h : InB st.1) : 0 ≤ (inNum k st).1 ∧ (inNum k st).1 < 256 ^ k := by
  have hp : (0 : Int) < 256 ^ k := Int.pow_pos (by decide)
  unfold inNum
  split
  · exact ⟨Int.le_refl _, hp⟩
  · rename_i hl
    split
    · exact ⟨Int.le_refl _, hp⟩
    · have := valB_in (st.1.take k) (fun z hz => h z (List.mem_of_mem_take hz))
      rwa [show (st.1.take k).length = k by simp; omega] at this
theorem InAt.inB {T : TypeId} {w : World} {p g : Nat} {st : InS} (h : InAt T w p g st) : InB st.1 := by
  obtain ⟨_, _, _, _, _, _, h5, _⟩ := h; exact h5
/-- A reader begun. -/
theorem in_start {w : World} {ao : Option Addr} {zs : List Int} {n cap : Nat} {o : Obj} (T : TypeId) (hn : zs.length = n) (h : IntsAt .u8 w ao zs) (hB : InB zs) (hc : n ≤ cap) (hm : cap ≤ maxLen) (hl : n ≤ 140737488355328) :
    ∃ g, InAt T ((w.alloc o).alloc (.cells #[.slice ao n cap, .bool false] T)) (w.heap.size + 1) g (zs, false) ∧ g ≤ w.heap.size := by
  subst hn
  have e1 : (w.alloc o).heap.size = w.heap.size + 1 := by simp
  have hb : Below w.heap.size w ((w.alloc o).alloc (.cells #[.slice ao zs.length cap, .bool false] T)) := ((Below.refl _ _).alloc (Nat.le_refl _) _).alloc (by simp) _
  have hx : ((w.alloc o).alloc (.cells #[.slice ao zs.length cap, .bool false] T)).heap[w.heap.size + 1]? = some (.cells #[.slice ao zs.length cap, .bool false] T (0, 0)) := by rw [← e1]; exact heap_alloc_new _ _
  have hs : ((w.alloc o).alloc (.cells #[.slice ao zs.length cap, .bool false] T)).heap.size = w.heap.size + 2 := by simp
  by_cases h0 : zs = []
  · exact ⟨w.heap.size, ⟨ao, cap, hx, ints_below h hb, hc, hm, hB, hl, Or.inl h0, by omega, by rw [hs]; omega⟩, Nat.le_refl _⟩
  · rcases h with h | ⟨b, off, rfl, hcl⟩
    · exact absurd h h0
    · have hbl := World.block_lt_of_cell? w _ (hcl 0 (List.length_pos_iff.2 h0))
      have hbl : b < w.heap.size := hbl
      exact ⟨b, ⟨_, cap, hx, ints_below (Or.inr ⟨b, off, rfl, hcl⟩) hb, hc, hm, hB, hl, Or.inr (fun a ha => by cases ha; rfl), by omega, by rw [hs]; omega⟩, by omega⟩

def DecBPost (w : World) (r : (Int × List RQ) × Int) (e : Ending) (w' : World) : Prop :=
  ∃ bo m c, e = .returned (.tuple #[.agg #[.int .i64 r.1.1, .slice bo m c], .int .i64 r.2]) ∧ r.1.2.length = m ∧ RqsAt w' bo r.1.2 ∧ m ≤ c ∧ c ≤ maxLen ∧ m ≤ 255 ∧ rqSum r.1.2 ≤ 100000 ∧ Below w.heap.size w w'

theorem batch_loop0 (st : InS) (n : Nat) : evsIn false n st = ([] ++ (evsIn false n st).1, (evsIn false n st).2) := rfl

theorem Try_infoReq : (Try.prog.info? 40).map (fun i => (i.zero, i.size, i.bytes)) = some (some (.agg #[.int .i64 0, .int .i64 0, .int .i64 0, .int .i64 0, .int .i64 0, .int .i64 0, .string ⟨#[]⟩, .string ⟨#[]⟩]), 8, 80) := by kernel_rfl

set_option maxRecDepth 100000 in
set_option maxHeartbeats 4000000 in
theorem decodeBatch (ao : Option Addr) (zs : List Int) (n cap : Nat) (w : World) (hn : zs.length = n) (h : IntsAt .u8 w ao zs) (hB : InB zs) (hc : n ≤ cap) (hm : cap ≤ maxLen) (hl : n ≤ 1000000) :
    Calls Try.prog 38 #[.slice ao n cap] w (DecBPost w (decF zs)) := by
  obtain ⟨w2, hw2⟩ : ∃ w2, w2 = (w.alloc (.cells #[.int .i64 0, .slice none 0 0] 46)).alloc (.cells #[.slice ao n cap, .bool false] 99) := ⟨_, rfl⟩
  obtain ⟨g, hg2, hgl⟩ := in_start (o := .cells #[.int .i64 0, .slice none 0 0] 46) 99 hn h hB hc hm (by omega)
  have HB2 : Hid (Below w.heap.size w w2) := Lib.hid (by subst hw2; exact ((Below.refl _ _).alloc (Nat.le_refl _) _).alloc (by simp) _)
  have HS2 : Hid (w2.heap.size = w.heap.size + 2) := Lib.hid (by subst hw2; simp)
  have HR2 : Hid (w2.heap[w.heap.size]? = some (.cells #[.int .i64 0, .slice none 0 0] 46 (0, 0))) := Lib.hid (by subst hw2; exact (Below.heap_alloc _ _ _ (by simp)).trans (heap_alloc_new w _))
  rw [← hw2] at hg2
  have HG2 := Lib.hid hg2
  have HW2 := Lib.hid hw2
  have HI := Lib.hid h
  have HN := Lib.hid hn
  have HIB := Lib.hid hB
  clear hg2 hw2 h hn hB
  go_enter Try.func38, Try.ntmps38
  go_wp2_with fail
  rw [← HW2.out]
  refine (in_num (w.heap.size + 1) g 2 (zs, false) w2 HG2.out (by omega)).mono ?_
  rintro en w3 ⟨rfl, hi3, hk3⟩
  have HI3 := Lib.hid hi3
  have HK3 := Lib.hid hk3
  have HBI := Lib.hid (show batchIn zs = (((inNum 2 (zs, false)).1, (evsIn false (inNum 1 (inNum 2 (zs, false)).2).1.toNat (inNum 1 (inNum 2 (zs, false)).2).2).1.map EV.rq), (evsIn false (inNum 1 (inNum 2 (zs, false)).2).1.toNat (inNum 1 (inNum 2 (zs, false)).2).2).2) from rfl)
  generalize inNum 2 (zs, false) = S2 at *
  obtain ⟨seen, st2⟩ := S2
  clear hi3 hk3
  go_wp2_with fail
  obtain ⟨w4, hw4⟩ : ∃ w4, w4 = w3.alloc (.cells #[.int .i64 seen, .slice none 0 0] 46) := ⟨_, rfl⟩
  rw [← hw4]
  have HX4 : Hid (w4.heap[w3.heap.size]? = some (.cells #[.int .i64 seen, .slice none 0 0] 46 (0, 0))) := Lib.hid (by subst hw4; exact heap_alloc_new w3 _)
  have HB4 : Hid (Below w3.heap.size w3 w4) := Lib.hid (by subst hw4; exact (Below.refl _ _).alloc (Nat.le_refl _) _)
  have hsz3 := HK3.out.size
  have hsz2 := HS2.out
  clear hw4
  refine (in_num (w.heap.size + 1) g 1 st2 w4 (HI3.out.below HB4.out) (by omega)).mono ?_
  rintro en w5 ⟨rfl, hi5, hk5⟩
  have HLT := Lib.hid (inNum_lt 1 st2 HI3.out.inB)
  generalize inNum 1 st2 = S1 at *
  obtain ⟨N, st1⟩ := S1
  have HRB : Hid (RowBox w5 w5 (w.heap.size + 1) g w3.heap.size 46 #[.int .i64 seen, .slice none 0 0] 40 8 (.slice none 0 0) 0 [] st1) := Lib.hid (RowBox.start _ _ hi5 ((hk5.block _ (blk_lt HX4.out) (by omega)).trans HX4.out) (by omega) (by omega))
  have HR5 : Hid (w5.heap[w.heap.size]? = some (.cells #[.int .i64 0, .slice none 0 0] 46 (0, 0))) := Lib.hid (by
    have a3 := (HK3.out.block _ (blk_lt HR2.out) (by omega)).trans HR2.out
    have a4 := (HB4.out.block _ (blk_lt a3)).trans a3
    exact (hk5.block _ (blk_lt a4) (by omega)).trans a4)
  have HB5 : Hid (Below w.heap.size w w5) := Lib.hid (by
    have b3 := HB2.out.trans (HK3.out.below (B := w.heap.size) HB2.out.size (fun i hi => by omega))
    have b4 := b3.trans (HB4.out.mono b3.size)
    exact b4.trans (hk5.below (B := w.heap.size) b4.size (fun i hi => by omega)))
  obtain ⟨N0, rfl⟩ := Int.eq_ofNat_of_zero_le HLT.out.1
  have HN255 : Hid (N0 ≤ 255) := Lib.hid (by
    have h1 : (N0 : Int) < 256 ^ 1 := HLT.out.2
    have e : (256 : Int) ^ 1 = 256 := by decide
    rw [e] at h1
    omega)
  simp only [Int.toNat_natCast] at HBI
  have hX : w3.heap.size = w3.heap.size := rfl
  have hXR : w.heap.size + 1 < w3.heap.size := by omega
  clear hi5 hk5 HX4 HLT HI3 HK3 HB4
  generalize w3.heap.size = X at *
  go_wp2_with fail
  go_loopw [6] (fun i wr => ∃ m v rs st', i = .int .i64 (m : Nat) ∧ evsIn false N0 st1 = (rs ++ (evsIn false m st').1, (evsIn false m st').2) ∧ rs.length + m ≤ 255 ∧ RowBox w5 wr (w.heap.size + 1) g X 46 #[.int .i64 seen, v] 40 8 v rs.length ((rs.map EV.rq).flatMap (fun r => r.cells.toList)) st') (fun i _ => (intOf i).toNat)
  case atStart => exact ⟨N0, .slice none 0 0, [], st1, rfl, rfl, by have := HN255.out; simpa using this, HRB.out⟩
  case round =>
    obtain ⟨m, v, rs, st', rfl, hev, hlen, hrb⟩ := hrel
    have HEV := Lib.hid hev
    have HRW := Lib.hid hrb
    obtain ⟨ao', cap', c0, c1, f0, f1, _, _, _⟩ := hrb.rd.cells
    have x0 := (hrb.cells 0).1
    have x1 := (hrb.cells 1).1
    have y0 := (hrb.cells 0).2
    have y1 := (hrb.cells 1).2
    simp only [List.getElem?_toArray, List.getElem?_cons_zero, List.getElem?_cons_succ] at x0 x1
    clear hrb hev
    by_cases hgo : m ≠ 0 ∧ st'.2 = false
    · obtain ⟨hm0, hbad⟩ := hgo
      rw [hbad] at c1
      obtain ⟨m', rfl⟩ : ∃ m', m = m' + 1 := ⟨m - 1, by omega⟩
      have HSTEP : Hid (evsIn false (m' + 1) st' = ((evIn false st').1 :: (evsIn false m' (evIn false st').2).1, (evsIn false m' (evIn false st').2).2)) := Lib.hid (by
        show (if st'.2 = true then _ else _) = _
        rw [hbad]; rfl)
      have HRD := Lib.hid HRW.out.drew
      have HIE := Lib.hid (in_event (w.heap.size + 1) g false st' wr.drew HRD.out.rd)
      have HO := Lib.hid HRW.out.own
      have HFR := Lib.hid HRW.out.fresh
      have hXl := blk_lt HRW.out.box
      unfold EvIn EV.cells at HIE
      generalize hE : evIn false st' = E at *
      obtain ⟨e1, st1'⟩ := E
      have hmi : (0 : Int) < ((m' + 1 : Nat) : Int) := by omega
      have hgl2 := hgl
      obtain ⟨i0, hi0, hz0, hz1, hz2⟩ := info_parts Try_infoReq
      clear hE hbad
      have HER := Lib.hid (fun w1 => event_req e1 w1)
      unfold EV.cells RQ.cells EV.rq at HER
      simp only at HER
      have HL := Lib.hid (show rs.length + 1 ≤ 255 by omega)
      go_wp2_with fail
      go_region_law (first
        | (go_simp; go_at_call 66; refine HIE.out.mono ?_; rintro en w6 ⟨rfl, hi6, hk6⟩; have HR6 := Lib.hid (HRD.out.read hk6 hi6); have k1 : w6.cell? ⟨X, 1, none⟩ = some v := (HR6.out.cells 1).1; have k1f := (HR6.out.cells 1).2; clear hi6 hk6)
        | (go_simp; go_at_call 67; refine (HER.out w6).mono ?_; rintro en w7 ⟨rfl, hb7⟩; have HR7 := Lib.hid (HR6.out.below hb7); have k2 : w7.cell? ⟨X, 1, none⟩ = some v := (HR7.out.cells 1).1; have k2f := (HR7.out.cells 1).2; have k2l := blk_lt HR7.out.box; clear hb7)
        | (refine step_append_any (by rfl) _ _ 44 (by rfl) 40 i0 _ 8 80 Try.underlying44 hi0 hz0 hz1 hz2 rfl (by decide) v rs.length ((rs.map EV.rq).flatMap (fun r => r.cells.toList)) (by rfl) (HR7.out.own.alloc _) (some ⟨w7.heap.size, 0, none⟩) 1 1 e1.rq.cells.toList (by rfl) (by rfl) (fun e => by cases e) (fun ad had => by cases had; exact World.news_of_block (heap_alloc_new _ _)) (by simp [Value.oneCell', RQ.cells]) (by have := HL.out; unfold maxLen; omega) (by have := HL.out; omega) ?_; intro ao2 cap2 w8 hown hgrow hat hnn; have HR8 := Lib.hid ((HR7.out.below ((Below.refl _ _).alloc (Nat.le_refl _) _)).grow hown hgrow (fun b hb => (hat b hb).imp id (fun e => by rw [e]; exact Nat.le_refl _)) 1); have kne : v.ownBlock ≠ some X := (fun e => absurd (HR7.out.fresh X e) (by have := HR7.out.xl; omega)); have k3 : w8.cell? ⟨X, 1, none⟩ = some v := ((hgrow.cell_far _ (by simp; omega) (Ne.symm kne)).trans ((World.cell?_alloc_past _ _ _ k2l).trans k2)); have k3f : w8.frozen? ⟨X, 1, none⟩ = false := ((hgrow.frozen_far _ (by simp; omega) (Ne.symm kne)).trans ((World.frozen?_alloc_past _ _ _ k2l).trans k2f))))
      all_goals
        have HR9 := Lib.hid HR8.out
        clear HR8 HR7 HR6
        go_wp2
        go_roundw
        case rel => exact ⟨m', _, rs ++ [e1], st1', by simp, by rw [HEV.out, HSTEP.out]; simp, by simp; omega, by simpa using HR9.out⟩
        case measure => simp [intOf]
    · have HFIN : Hid (evsIn false N0 st1 = (rs, st')) := Lib.hid (by
        rw [HEV.out]
        have e : evsIn false m st' = ([], st') := by
          cases m with
          | zero => rfl
          | succ k =>
            have hb : st'.2 = true := by
              cases h : st'.2
              · exact absurd ⟨Nat.succ_ne_zero k, h⟩ hgo
              · rfl
            show (if st'.2 = true then _ else _) = _
            rw [hb]; rfl
        rw [e]; simp)
      obtain ⟨bo, c, hv, hcl, hcm⟩ := own_shape HRW.out.own
      subst hv
      have HSZ := Lib.hid (evsIn_size false N0 st1)
      have HRQ := Lib.hid (rqs_own HRW.out.own (by simp))
      have HSUM : Hid (rqSum (rs.map EV.rq) ≤ 100000) := Lib.hid (by
        have h := HSZ.out
        rw [HFIN.out] at h
        have h2 := HN255.out
        rw [rqSum_ev]; have := h.2; simp only at this; omega)
      have HLN : Hid (rs.length ≤ 255) := Lib.hid (by
        have h := HSZ.out
        rw [HFIN.out] at h
        have h2 := HN255.out
        have := h.1; simp only at this; omega)
      have HBW : Hid (Below w.heap.size w wr) := Lib.hid (HB5.out.trans (HRW.out.keep.below (B := w.heap.size) HB5.out.size (fun i hi => by omega)))
      have HRC : Hid (wr.heap[w.heap.size]? = some (.cells #[.int .i64 0, .slice none 0 0] 46 (0, 0))) := Lib.hid ((HRW.out.keep.block _ (blk_lt HR5.out) (fun h => by omega)).trans HR5.out)
      have HZS := Lib.hid (ints_below HI.out HBW.out)
      have hXl := blk_lt HRW.out.box
      have HDEC : Hid (decF zs = if st'.2 = false ∧ (encF seen (rs.map EV.rq)).2 = 0 ∧ (encF seen (rs.map EV.rq)).1 = zs then ((seen, rs.map EV.rq), 0) else ((0, []), 2)) := Lib.hid (by
        unfold decF
        rw [HBI.out, HFIN.out])
      have HENC := Lib.hid (encodeBatch seen bo (rs.map EV.rq) rs.length c wr (by simp) HRQ.out (by have := HSUM.out; omega))
      have HEI := Lib.hid (encF_in seen (rs.map EV.rq))
      have HPX : Hid (Below wr.heap.size wr wr) := Lib.hid (Below.refl _ _)
      generalize hE : encF seen (rs.map EV.rq) = E at *
      obtain ⟨bs, er⟩ := E
      clear hE HFIN HSZ HEV
      have HBAD : Hid (m ≠ 0 → st'.2 = true) := Lib.hid (by
        intro h0
        cases h : st'.2
        · exact absurd ⟨h0, h⟩ hgo
        · rfl)
      clear hgo
      have HXB := Lib.hid HRW.out.box
      have HPB : Hid (∃ v0, wr.heap[w.heap.size + 1]? = some (.cells #[v0, .bool st'.2] 99 (0, 0))) := Lib.hid (by
        obtain ⟨ao1, c1', h1, _⟩ := HRW.out.rd
        exact ⟨_, h1⟩)
      generalize st'.2 = bad at *
      have HFIX : Hid (∀ w6, Below wr.heap.size wr w6 → (w6.cell? ⟨w.heap.size + 1, 1, none⟩ = some (.bool bad) ∧ w6.frozen? ⟨w.heap.size + 1, 1, none⟩ = false) ∧ (w6.cell? ⟨X, 0, none⟩ = some (.int .i64 seen) ∧ w6.frozen? ⟨X, 0, none⟩ = false) ∧ (w6.cell? ⟨X, 1, none⟩ = some (.slice bo rs.length c) ∧ w6.frozen? ⟨X, 1, none⟩ = false) ∧
          (w6.cell? ⟨w.heap.size, 0, none⟩ = some (.int .i64 0) ∧ w6.frozen? ⟨w.heap.size, 0, none⟩ = false) ∧ (w6.cell? ⟨w.heap.size, 1, none⟩ = some (.slice none 0 0) ∧ w6.frozen? ⟨w.heap.size, 1, none⟩ = false) ∧ w6.heap[w.heap.size]? = some (.cells #[.int .i64 0, .slice none 0 0] 46 (0, 0)) ∧ Below w.heap.size w w6 ∧ IntsAt .u8 w6 ao zs ∧ RqsAt w6 bo (rs.map EV.rq)) := Lib.hid (by
        intro w6 hb6
        obtain ⟨v0, hpb⟩ := HPB.out
        have p6 := (hb6.block _ (blk_lt hpb)).trans hpb
        have x6 := (hb6.block _ (blk_lt HXB.out)).trans HXB.out
        have r6 := (hb6.block _ (blk_lt HRC.out)).trans HRC.out
        exact ⟨⟨blk_cell p6 1, blk_frozen p6 1⟩, ⟨blk_cell x6 0, blk_frozen x6 0⟩, ⟨blk_cell x6 1, blk_frozen x6 1⟩, ⟨blk_cell r6 0, blk_frozen r6 0⟩, ⟨blk_cell r6 1, blk_frozen r6 1⟩, r6, HBW.out.trans (hb6.mono HBW.out.size), ints_below HZS.out hb6, HRQ.out.below hb6⟩)
      have HQF : Hid (∀ w6 wF : World, Below wr.heap.size wr w6 → Keeps (fun i => i = w.heap.size) w6 wF → RqsAt wF bo (rs.map EV.rq)) := Lib.hid (by
        intro w6 wF hb6 hk
        have ho := HRW.out.own
        have hpl := HRW.out.pl
        exact rqs_own (ownsRow_same ho (fun b hb => by
          have l := (ho.lt b hb).2
          have f := HRW.out.fresh b hb
          have l6 := hb6.size
          exact (hk.block b (by omega) (by omega)).trans (hb6.block b l))) (by simp))
      clear HRW HRB HR5 HB5 HR2 HB2 HS2 HG2 HW2 HI
      by_cases hm0 : m = 0
      case' pos =>
        subst hm0
        go_wp2_with fail
      case' neg =>
        have hbad := HBAD.out hm0
        rw [hbad] at c1
        have hmi : (0 : Int) < (m : Int) := by omega
        clear hbad
        go_wp2_with fail
      all_goals
        refine HENC.out.mono ?_
        rintro en w6 ⟨eo, ecap, rfl, hx6, hb6, _⟩
        obtain ⟨⟨b6, b6f⟩, ⟨s0, s0f⟩, ⟨s1, s1f⟩, ⟨r0, r0f⟩, ⟨r1, r1f⟩, hr6, hw6, hz6, hq6⟩ := HFIX.out w6 hb6
        have HEQ := Lib.hid (bytes_equal eo ao bs zs bs.length n ecap cap w6 rfl HN.out hx6 hz6 HEI.out HIB.out)
        have HW6 := Lib.hid hw6
        have HR6 := Lib.hid hr6
        have HQS := Lib.hid (fun wF hk => HQF.out w6 wF hb6 hk)
        clear hx6 hz6 hw6 hr6 hq6 hb6 c0 c1 f0 f1 x0 x1 y0 y1
        have hLR : w.heap.size < w6.heap.size := blk_lt HR6.out
        by_cases hok : bad = false ∧ er = 0 ∧ bs = zs
        case' pos =>
          first
          | exact absurd (hok.1.symm.trans (HBAD.out hm0)) (by decide)
          | skip
          all_goals
            obtain ⟨rfl, rfl, rfl⟩ := hok
            go_wp2_with fail
            refine HEQ.out.mono ?_
            rintro en w7 ⟨rfl, rfl⟩
            rw [eqB_self]
            go_wp2_with fail
            obtain ⟨wF, hwF⟩ : ∃ wF, wF = (w6.setCell ⟨w.heap.size, 0, none⟩ (.int .i64 seen)).setCell ⟨w.heap.size, 1, none⟩ (.slice bo rs.length c) := ⟨_, rfl⟩
            rw [← hwF]
            have hk : Keeps (fun i => i = w.heap.size) w6 wF := by rw [hwF]; exact ((Keeps.refl (fun i => i = w.heap.size) w6).setCell (p := ⟨w.heap.size, 0, none⟩) (Or.inl rfl) _).setCell (p := ⟨w.heap.size, 1, none⟩) (Or.inl rfl) _
            have hr : wF.heap[w.heap.size]? = some (.cells #[.int .i64 seen, .slice bo rs.length c] 46 (0, 0)) := by rw [hwF]; exact blk_set (blk_set HR6.out 0 _) 1 _
            have q0 := blk_cell hr 0
            have q1 := blk_cell hr 1
            simp only [List.getElem?_toArray, List.getElem?_cons_zero, List.getElem?_cons_succ] at q0 q1
            refine bodyPost_ret (v := .tuple #[.agg #[.int .i64 seen, .slice bo rs.length c], .int .i64 0]) (by simp [results, Try.results38, go_sem, *]) rfl ?_
            rw [HDEC.out, if_pos (by simp)]
            exact ⟨bo, rs.length, c, rfl, by simp, HQS.out wF hk, hcl, hcm, HLN.out, HSUM.out, HW6.out.trans (hk.below HW6.out.size (fun i hi => by omega))⟩
        case' neg =>
          have HDC : Hid (decF zs = ((0, []), 2)) := Lib.hid (by rw [HDEC.out, if_neg hok])
          by_cases hb1 : bad = true
          case' pos =>
            obtain rfl := hb1
            clear hok
            go_wp2_with fail
          case' neg =>
            by_cases he0 : er = 0
            case' pos =>
              obtain rfl := he0
              have hq : eqB bs zs = false := by
                unfold eqB
                simp only [decide_eq_false_iff_not]
                intro h
                exact hok ⟨by simpa using hb1, rfl, h⟩
              obtain rfl : bad = false := by simpa using hb1
              clear hok hb1
              go_wp2_with fail
              refine HEQ.out.mono ?_
              rintro en w7 ⟨rfl, rfl⟩
              rw [hq]
              go_wp2_with fail
            case' neg =>
              obtain rfl : bad = false := by simpa using hb1
              have hne : (er != 0) = true := by simp [he0]
              clear hok hb1
              go_wp2_with fail
          all_goals
            obtain ⟨wF, hwF⟩ : ∃ wF, wF = (w6.setCell ⟨w.heap.size, 0, none⟩ (.int .i64 0)).setCell ⟨w.heap.size, 1, none⟩ (.slice none 0 0) := ⟨_, rfl⟩
            rw [← hwF]
            have hk : Keeps (fun i => i = w.heap.size) w6 wF := by rw [hwF]; exact ((Keeps.refl (fun i => i = w.heap.size) w6).setCell (p := ⟨w.heap.size, 0, none⟩) (Or.inl rfl) _).setCell (p := ⟨w.heap.size, 1, none⟩) (Or.inl rfl) _
            have hr : wF.heap[w.heap.size]? = some (.cells #[.int .i64 0, .slice none 0 0] 46 (0, 0)) := by rw [hwF]; exact blk_set (blk_set HR6.out 0 _) 1 _
            have q0 := blk_cell hr 0
            have q1 := blk_cell hr 1
            simp only [List.getElem?_toArray, List.getElem?_cons_zero, List.getElem?_cons_succ] at q0 q1
            refine bodyPost_ret (v := .tuple #[.agg #[.int .i64 0, .slice none 0 0], .int .i64 2]) (by simp [results, Try.results38, go_sem, *]) rfl ?_
            rw [HDC.out]
            exact ⟨none, 0, 0, rfl, rfl, Or.inl rfl, Nat.le_refl _, Nat.zero_le _, Nat.zero_le _, Nat.zero_le _, HW6.out.trans (hk.below HW6.out.size (fun i hi => by omega))⟩

end Go.Proofs.Ytadejcpifabpoaa
