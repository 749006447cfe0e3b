/- Parts of the proof: Lx3 Refx Lv2 Lx4 Lsh. -/
import Derived.Test.YtkaciaehlibidaaGreatZ13
import Derived.Test.YtkaciaehlibidaaGreatZ14
import Derived.Test.YtkaciaehlibidaaGreatZ17
import Derived.Test.YtkaciaehlibidaaGreatZ21
import Derived.Test.YtkaciaehlibidaaGreatZ22
namespace Go.Proofs.YtkaciaehlibidaaGreat
open Go.RowKit
set_option linter.unusedVariables false
set_option linter.unusedSimpArgs false
theorem evl_len (es : List EV) : (es.flatMap EV.list).length = es.length * 9 := by
 induction es with
 | nil => rfl
 | cons e es ih => rw [List.flatMap_cons, List.length_append, ih, List.length_cons, show e.list.length = 9 from rfl]; omega
theorem src_evs {w : World} {ao : Option Addr} {es : List EV} (h : EvsAt w ao es) : ∀ ad, ao = some ad → ∀ j u, (es.flatMap EV.list)[j]? = some u → w.cell? (ad.add j) = some u := by
 intro ad had j u hu
 rcases h with h | ⟨b, off, h1, h2⟩
 · rw [h] at hu; simp at hu
 · rw [h1] at had
   cases had
   have hj : j < es.length * 9 := by
    rw [← evl_len]
    exact (List.getElem?_eq_some_iff.1 hu).1
   have hi : j / 9 < es.length := by omega
   have hf := flat_get EV.list 9 (fun _ => rfl) es (j / 9) hi (j % 9) (Nat.mod_lt _ (by omega))
   rw [show j / 9 * 9 + j % 9 = j by omega, hu] at hf
   have h3 := h2 (j / 9) hi (j % 9) u (by rw [hf]; exact Array.getElem?_toList.symm)
   rw [addr_add, show off + j = off + j / 9 * 9 + j % 9 by omega]
   exact h3
theorem evl_one (es : List EV) : ∀ u ∈ es.flatMap EV.list, u.oneCell' = true := fun u hu => by
 obtain ⟨e, _, h⟩ := List.mem_flatMap.1 hu
 exact ev_one e u h
section
variable {S : Nat → Prop} {W w : World} {n m : Nat} {E : Int} {s : LS} {T : Nat → Int} {X B q : Nat}
set_option maxRecDepth 100000 in
set_option maxHeartbeats 8000000 in
theorem xled_apply (hone : OneLaw) (h : XL S W w n m E s T X B q) (p ck seen : Int) (ro : Option Addr) (rs : List RQ) (rn rc : Nat) (hrn : rs.length = rn) (hrc : rn ≤ rc) (hrm : rc ≤ maxLen) (hqS : ∀ w', Keeps S w w' → RqsAt w' ro rs) :
 Calls Tryz.prog 25 #[.pointer (some ⟨X, 0, none⟩), .int .i64 p, .int .i64 ck, .agg #[.int .i64 seen, .slice ro rn rc]] w (XAppPost S W w n m E (applyF n m E s p ck rs) T X B q (appR n m E s p ck rs) (dropF (applyF n m E s p ck rs).evs seen)) := by
 have HWW := Lib.hid h.bel.size
 have HQS := Lib.hid hqS
 have HRN := Lib.hid hrn
 have HLT := Lib.hid h.lt
 have HON := Lib.hid hone
 obtain ⟨Sb0, st, ve0, vw0, vn0, hd0, hi0, hns0, hS0⟩ := h
 have HS0 := Lib.hid hS0
 have HNS := Lib.hid hns0
 obtain ⟨Q, hQ⟩ : ∃ Q, Q = w.heap.size := ⟨_, rfl⟩
 obtain ⟨Z, hZ⟩ : ∃ Z, Z = w.heap.size + 1 := ⟨_, rfl⟩
 obtain ⟨w1, hw1⟩ : ∃ w1, w1 = (w.alloc (.cells #[.int .i64 seen, .slice ro rn rc] 41)).alloc (.cells #[.int .i64 0, .int .i64 0, .slice none 0 0, .slice none 0 0] 37) := ⟨_, rfl⟩
 have e1 : (w.alloc (.cells #[.int .i64 seen, .slice ro rn rc] 41)).heap.size = w.heap.size + 1 := by simp
 have hb1 : Below w.heap.size w w1 := by rw [hw1]; exact ((Below.refl _ _).alloc (Nat.le_refl _) _).alloc (by simp) _
 have HQ1 : Hid (w1.heap[Q]? = some (.cells #[.int .i64 seen, .slice ro rn rc] 41 (0, 0))) := Lib.hid (by rw [hw1, hQ]; exact (Below.heap_alloc _ _ _ (by omega)).trans (heap_alloc_new w _))
 have HZ1 : Hid (w1.heap[Z]? = some (.cells #[.int .i64 0, .int .i64 0, .slice none 0 0, .slice none 0 0] 37 (0, 0))) := Lib.hid (by rw [hw1, hZ, ← e1]; exact heap_alloc_new _ _)
 have HB1 := Lib.hid hb1
 have HD1 := Lib.hid (hd0.below hb1)
 have HW1 := Lib.hid hw1
 have HQZ : Hid (Q = w.heap.size ∧ Z = w.heap.size + 1 ∧ w1.heap.size = w.heap.size + 1 + 1) := Lib.hid ⟨hQ, hZ, by rw [hw1]; simp⟩
 obtain ⟨s1, hs1⟩ : ∃ s1, s1 = tickF s ck := ⟨_, rfl⟩
 have HS1 := Lib.hid hs1
 have HI1 : Hid (LInv n m E s1 T) := Lib.hid (by rw [hs1]; exact hi0.ticks ck)
 have HSL : Hid (s1.l = s.l) := Lib.hid (by rw [hs1]; unfold tickF; split <;> rfl)
 have HAP : Hid (applyF n m E s p ck rs = runF n m E p s1 (rs.take 64)) := Lib.hid (by rw [hs1]; rfl)
 have HAR : Hid (appR n m E s p ck rs = repsF n m E p s1 (rs.take 64)) := Lib.hid (by rw [hs1]; rfl)
 have HRC := Lib.hid (And.intro hrc hrm)
 generalize applyF n m E s p ck rs = SF at *
 generalize appR n m E s p ck rs = YF at *
 clear hw1 hb1 hQ hZ e1 hd0 hi0 hS0 hs1 hqS hrn hrc hrm hone hns0
 go_enter Tryz.func25, Tryz.ntmps25
 go_upto_region 1 with fail
 rw [← HW1.out, ← HQZ.out.2.1, ← HQZ.out.1]
 clear HW1
 obtain ⟨_, _, _, c3, _⟩ := HD1.out.cells
 have f3 := blk_frozen HD1.out.box 3
 obtain ⟨TB, hTB⟩ : ∃ TB : Bool, TB = (tickB ck && decide (s.ck < ck)) := ⟨_, rfl⟩
 go_cut [20] (fun a wx => a = .bool TB ∧ wx = w1)
 case first =>
  go_wp2_with fail
  refine (rtick9_any ck w1).mono ?_
  rintro e wx ⟨rfl, rfl⟩
  rename World => w1
  cases htk : tickB ck
  all_goals
   rw [htk] at hTB
   go_wp2_with fail
   go_meet
   case rel => exact ⟨by rw [hTB]; simp, rfl⟩
 case rest =>
 obtain ⟨rfl, rfl⟩ := hcut
 rename World => w1
 have HTB := Lib.hid hTB
 clear hTB
 go_upto_if 20 with fail
 go_cut [] (fun wx => XDat Sb0 W wx n m E s1 X B q st ve0 vw0 vn0 ∧ Keeps (fun i => i = X) w1 wx)
 case first =>
  cases TB
  case false =>
   have HT : Hid (s1 = s) := Lib.hid (by
    rw [HS1.out]; unfold tickF
    have h := HTB.out
    split
    · rename_i ht
      rw [ht, Bool.true_and] at h
      have : ¬ s.ck < ck := by simpa using h.symm
      rw [show max s.ck ck = s.ck by omega]
    · rfl)
   go_wp2_with fail
   go_meet
   case rel => exact ⟨by rw [HT.out]; exact HD1.out, Keeps.refl _ _⟩
  case true =>
   have HT : Hid (s1 = ⟨s.b, s.l, ck, s.es⟩) := Lib.hid (by
    rw [HS1.out]; unfold tickF
    have h := HTB.out.symm
    rw [Bool.and_eq_true, decide_eq_true_eq] at h
    rw [if_pos h.1, show max s.ck ck = ck by omega])
   go_wp2_with fail
   go_meet
   case rel => exact ⟨by rw [HT.out]; exact HD1.out.tick _, (Keeps.refl (fun i => i = X) w1).setCell (p := ⟨X, 3, none⟩) (Or.inl rfl) _⟩
 case rest =>
 obtain ⟨hd2, hk2⟩ := hcut
 rename World => w2
 have HD2 := Lib.hid hd2
 have HK2 := Lib.hid hk2
 clear hd2 hk2 c3 f3
 go_upto_region 4 with fail
 obtain ⟨N, hN⟩ : ∃ N, N = w2.heap.size := ⟨_, rfl⟩
 obtain ⟨w3, hw3⟩ : ∃ w3, w3 = w2.alloc (.cells #[.int .i64 0, .int .i64 0, .slice none 0 0, .slice none 0 0] 37) := ⟨_, rfl⟩
 rw [← hw3, ← hN]
 have HAP3 : Hid (XApAt S W w w3 n m E s1 T X B q N Z Q seen ro rn rc [] (.slice none 0 0) S) := Lib.hid (by
  have hb3 : Below w2.heap.size w2 w3 := by rw [hw3]; exact (Below.refl _ _).alloc (Nat.le_refl _) _
  have hZ1 := blk_lt HZ1.out
  have hQ1 := blk_lt HQ1.out
  have hs := HQZ.out
  have hs2 := HK2.out.size
  have hAS : S X := (HS0.out X).2 (Or.inr (Or.inl rfl))
  have hAl := HLT.out X hAS
  refine ⟨⟨Sb0, st, ve0, vw0, vn0, HD2.out.below hb3, HI1.out, by rw [HSL.out]; exact HNS.out, HS0.out⟩, ?_, fun i hi => Or.inl hi, by rw [hw3, hN]; exact heap_alloc_new _ _, ⟨_, _, _, _, (hb3.block Z (by omega)).trans ((HK2.out.block Z hZ1 (by omega)).trans HZ1.out)⟩, (hb3.block Q (by omega)).trans ((HK2.out.block Q hQ1 (by omega)).trans HQ1.out), World.ownsRow_nil _ _ _ _, ⟨fun h => by have := HLT.out N h; omega, fun h => by have := HLT.out Z h; omega, fun h => by have := HLT.out Q h; omega, by omega, by omega, by omega⟩, (fun g hg => by cases hg), by omega, (fun g hg => by cases hg)⟩
  exact ((Keeps.of_below (S := S) HB1.out).trans (HK2.out.mono (S' := S) (fun i _ e => e ▸ hAS)) (fun i hi => Or.inl hi)).trans (Keeps.of_below (S := fun _ => False) hb3) (fun i f => f.elim))
 clear hw3 hN HD1 HQ1 HZ1 HB1 HQZ HD2 HK2 HS0 HLT HTB HSL HNS
 obtain ⟨K, hK⟩ : ∃ K, K = min rn 64 := ⟨_, rfl⟩
 have HK := Lib.hid hK
 clear hK
 have hK64 : (K : Int) ≤ 64 := by have := HK.out; omega
 go_wp2_with fail
 go_loopw [10] (fun i wr => ∃ k : Nat, k ≤ K ∧ i = .int .i64 (k : Int) ∧ ∃ S' ao c, XApAt S W w wr n m E (runF n m E p s1 (rs.take k)) T X B q N Z Q seen ro rn rc (repsF n m E p s1 (rs.take k)) (.slice ao k c) S') (fun i _ => K - (intOf i).toNat)
 case atStart => exact ⟨0, by omega, rfl, S, none, 0, HAP3.out⟩
 case round =>
  obtain ⟨k, hk, rfl, S4, ao, c, hap⟩ := hrel
  have HA4 := Lib.hid hap
  clear hap HAP3
  have k0 : (0 : Int) ≤ (k : Int) := by omega
  have q1 := blk_cell HA4.out.qb 1
  simp only [lq] at q1
  by_cases hlt : k < K
  case pos => as_aux_lemma =>
   have k1 : (k : Int) < (rn : Int) := by have := HK.out; omega
   have k2 : (k : Int) < 64 := by have := HK.out; omega
   have hkr : k < rs.length := by rw [HRN.out]; have := HK.out; omega
   have HKL : Hid (k < K) := Lib.hid hlt
   have HRUN := Lib.hid (runF_snoc (n := n) (m := m) (E := E) p s1 rs k hkr)
   have HREP := Lib.hid (repsF_snoc (n := n) (m := m) (E := E) p s1 rs k hkr)
   have HYL : Hid ((repsF n m E p s1 (rs.take k)).length = k) := Lib.hid (by rw [repsF_len, List.length_take]; omega)
   obtain ⟨rb, roff, hro, _⟩ : ∃ rb roff, ro = some ⟨rb, roff, none⟩ ∧ True := by
    rcases HQS.out _ HA4.out.kp with h | ⟨b, off, h1, h2⟩
    · rw [h] at hkr; simp at hkr
    · exact ⟨b, off, h1, trivial⟩
   have HAT := Lib.hid (fun w' (hk : Keeps S w w') => show rs[k].at_ w' rb (roff + k * 8) from by
    rcases HQS.out w' hk with h | ⟨b, off, h1, h2⟩
    · rw [h] at hkr; simp at hkr
    · rw [hro] at h1
      simp only [Option.some.injEq, Addr.mk.injEq, and_true] at h1
      obtain ⟨rfl, rfl⟩ := h1
      exact h2 k hkr)
   subst hro
   generalize rs[k] = r at *
   generalize runF n m E p s1 (rs.take k) = sk at *
   generalize repsF n m E p s1 (rs.take k) = ys at *
   generalize hst2 : runF n m E p s1 (rs.take (k + 1)) = st2 at *
   generalize hys2 : repsF n m E p s1 (rs.take (k + 1)) = ys2 at *
   have HST2 := Lib.hid hst2
   have HYS2 := Lib.hid hys2
   have HAd := Lib.hid (HA4.out.below (below_drew _))
   obtain ⟨r0, r1, r2, r3, r4, r5, r6, r7⟩ := (HAT.out wr.drew HAd.out.kp).all
   have n2 := blk_cell HAd.out.nb 2
   have q1d := blk_cell HAd.out.qb 1
   simp only [lq] at n2 q1d
   have HO := Lib.hid (HON.out S4 W wr.drew n m E sk T X B q HAd.out.ld p r)
   unfold RQ.cells at HO
   obtain ⟨j0, hj0, hu0, hu1, hu2⟩ := info_parts Try_infoRp
   have HRS : Hid (st2 = stepF n m E p sk r ∧ ys2 = ys ++ [repF n m E p sk r]) := Lib.hid ⟨HRUN.out, HREP.out⟩
   unfold repF at HRS
   have HY0 := Lib.hid HYL.out
   generalize stepF n m E p sk r = s4 at *
   generalize (doesF n m E sk p r).c = dc at *
   generalize (doesF n m E sk p r).i = di at *
   clear hst2 hys2 hlt hk hkr HRUN HREP
   go_upto_region 7 with fail
   refine walkD_start (S1 := fun w' => w'.cell? ⟨N, 2, none⟩ = some (.slice ao k c) ∧ w'.cell? ⟨Q, 1, none⟩ = some (.slice (some ⟨rb, roff, none⟩) rn rc) ∧ w'.cell? ⟨rb, roff + k * 8, none⟩ = some (.int .i64 r.k) ∧ w'.cell? ⟨rb, roff + k * 8 + 1, none⟩ = some (.int .i64 r.t) ∧ w'.cell? ⟨rb, roff + k * 8 + 2, none⟩ = some (.int .i64 r.a) ∧ w'.cell? ⟨rb, roff + k * 8 + 3, none⟩ = some (.int .i64 r.n) ∧ w'.cell? ⟨rb, roff + k * 8 + 4, none⟩ = some (.int .i64 r.i) ∧ w'.cell? ⟨rb, roff + k * 8 + 5, none⟩ = some (.int .i64 r.d) ∧ w'.cell? ⟨rb, roff + k * 8 + 6, none⟩ = some (.string r.h) ∧ w'.cell? ⟨rb, roff + k * 8 + 7, none⟩ = some (.string r.s)) (tl := [12, 13]) (by kernel_rfl) ?_ (fun hHeld => ?_)
   · exact ⟨n2, q1d, r0, r1, r2, r3, r4, r5, r6, r7⟩
   refine td 0 11 [1] 36 ?_
   simp only [lz]
   refine td 1 11 [] 37 ?_
   simp only [lz]
   refine td 2 11 [9] 38 ?_
   simp only [lz]
   refine td 3 11 [9] 39 ?_
   simp only [lz]
   refine td 4 11 [9, 8, 7, 5] 40 ?_
   simp only [lz]
   refine td 5 11 [9, 8, 7] 41 ?_
   simp only [lz]
   refine td 6 11 [9, 8, 7] 42 ?_
   simp only [lz]
   refine td 7 11 [9, 8] 43 ?_
   simp only [lz]
   refine td 8 11 [9] 44 ?_
   simp only [lz]
   refine walkD_ready (rs := [9]) (by kernel_rfl) (by simp) ?_
   refine AllD.cons rfl (fun K hK => ?_) AllD.nil
   go_simp
   refine HO.out.mono ?_
   rintro e w6 ⟨rfl, S6, hd6, hk6, hn6⟩
   have HA6 := Lib.hid (HAd.out.turn hd6 hk6 hn6)
   clear hd6 hk6 hn6 n2 q1d r0 r1 r2 r3 r4 r5 r6 r7
   obtain ⟨r0, r1, r2, r3, r4, r5, r6, r7⟩ := (HAT.out w6 HA6.out.kp).all
   dsimp only
   go_wp2_with fail
   refine hK.out _ _ ?_ (fun hHeld => ?_)
   · exact ⟨blk_cell HA6.out.nb 2, blk_cell HA6.out.qb 1, r0, r1, r2, r3, r4, r5, r6, r7⟩
   clear hK K
   try simp only [Act.put, lg]
   try simp only [lz]
   refine walkD_ready (rs := [10]) (by kernel_rfl) (by simp) ?_
   refine AllD.cons rfl (fun K hK => ?_) AllD.nil
   go_simp
   obtain ⟨w7, hw7⟩ : ∃ w7, w7 = w6.alloc (.cells #[.int .i64 dc, .int .i64 di] 50) := ⟨_, rfl⟩
   obtain ⟨P7, hP7⟩ : ∃ P7, P7 = w6.heap.size := ⟨_, rfl⟩
   rw [← hw7, ← hP7]
   have HB7 : Hid (w7.heap[P7]? = some (.cells #[.int .i64 dc, .int .i64 di] 50 (0, 0))) := Lib.hid (by rw [hw7, hP7]; exact heap_alloc_new _ _)
   have hb7 : Below w6.heap.size w6 w7 := by rw [hw7]; exact (Below.refl _ _).alloc (Nat.le_refl _) _
   have HA7 := Lib.hid (HA6.out.below hb7)
   clear hb7
   have HPA : Hid (w7.ownsRow 0 50 2 (.slice ao k c) k (ys.flatMap RP.list)) := Lib.hid (by have h := HA7.out.row; rw [HYL.out] at h; exact h)
   clear hw7 hP7 r0 r1 r2 r3 r4 r5 r6 r7
   obtain ⟨r0, r1, r2, r3, r4, r5, r6, r7⟩ := (HAT.out w7 HA7.out.kp).all
   go_wp2_with fail
   refine hK.out _ _ ?_ (fun hHeld => ?_)
   · exact ⟨blk_cell HA7.out.nb 2, blk_cell HA7.out.qb 1, r0, r1, r2, r3, r4, r5, r6, r7⟩
   clear hK K
   try simp only [Act.put, lg]
   try simp only [lz]
   refine walkD_ready (rs := [11]) (by kernel_rfl) (by simp) ?_
   refine AllD.cons rfl (fun K hK => ?_) AllD.nil
   refine step_append_any (by rfl) _ _ 34 (by rfl) 50 j0 _ 2 16 Tryz.underlying34 hj0 hu0 hu1 hu2 rfl (by decide) (.slice ao k c) k _ (by rfl) HPA.out (some ⟨P7, 0, none⟩) 1 1 (RP.list (dc, di)) (by rfl) (by rfl) (fun e => by cases e) (src_box HB7.out) (rp_one (dc, di)) (by unfold maxLen; omega) (by omega) ?_
   intro ao3 cap3 w8 hown hgrow hat hnn
   have HK8 : Hid (Keeps (fun i => (Value.slice ao k c).ownBlock = some i) w7 w8) := Lib.hid ((Keeps.refl _ w7).grown hgrow (fun i hi => Or.inl hi))
   have HO8 : Hid (w8.ownsRow 0 50 2 (.slice ao3 (k + 1) cap3) (ys.length + 1) ((ys ++ [(dc, di)]).flatMap RP.list)) := Lib.hid (by
    rw [HYL.out, List.flatMap_append]
    simp only [List.flatMap_cons, List.flatMap_nil, List.append_nil]
    exact hown)
   have HT8 : Hid (∀ g, (Value.slice ao3 (k + 1) cap3).ownBlock = some g → (Value.slice ao k c).ownBlock = some g ∨ w7.heap.size ≤ g) := Lib.hid (fun g hg => by
    rcases hat g hg with h | h
    · exact Or.inl h
    · exact Or.inr (by omega))
   have HNB : Hid (w8.heap[N]? = w7.heap[N]?) := Lib.hid (HK8.out.block N (blk_lt HA7.out.nb) (fun e => (HA7.out.nY N e).1 rfl))
   have HQB : Hid (w8.heap[Q]? = w7.heap[Q]?) := Lib.hid (HK8.out.block Q (blk_lt HA7.out.qb) (fun e => (HA7.out.nY Q e).2.2 rfl))
   have HKP8 : Hid (Keeps S w w8) := Lib.hid (HA7.out.kp.trans HK8.out (fun i hi => Or.inr (HA7.out.oy i hi)))
   have HFI := Lib.hid (HA7.out.reply (dc, di) HWW.out HO8.out HK8.out HT8.out)
   clear hown hgrow hat hnn r0 r1 r2 r3 r4 r5 r6 r7
   obtain ⟨r0, r1, r2, r3, r4, r5, r6, r7⟩ := (HAT.out w8 HKP8.out).all
   go_wp2_with fail
   refine hK.out _ _ ?_ (fun hHeld => ?_)
   · exact ⟨blk_cell (HNB.out.trans HA7.out.nb) 2, blk_cell (HQB.out.trans HA7.out.qb) 1, r0, r1, r2, r3, r4, r5, r6, r7⟩
   clear hK K
   try simp only [Act.put, lg]
   try simp only [lz]
   refine tz 12 48 ?_
   simp only [lz]
   clear hHeld
   have n2 : w8.cell? ⟨N, 2, none⟩ = some (.slice ao k c) := blk_cell (HNB.out.trans HA7.out.nb) 2
   have g2 : w8.frozen? ⟨N, 2, none⟩ = false := blk_frozen (HNB.out.trans HA7.out.nb) 2
   refine walkD_ready (rs := [13]) (by kernel_rfl) (by simp) ?_
   refine AllD.tail (by kernel_rfl) rfl (fun K hK => ?_) AllD.nil
   go_simp
   go_wp2_with fail
   refine hK.out _ _ ?_
   clear hK K
   try simp only [Act.put, lg]
   try simp only [lz]
   refine walkD_done (by kernel_rfl) ?_ _
   have HMS : Hid (K - (k + 1) < K - k) := Lib.hid (by have := HKL.out; omega)
   clear hj0 hu0 hu1 hu2 r0 r1 r2 r3 r4 r5 r6 r7 n2 g2 q1
   go_wp2
   go_roundw
   case rel => exact ⟨k + 1, HKL.out, by go_num, S6, ao3, cap3, by rw [HST2.out, HYS2.out, HRS.out.1, HRS.out.2]; exact HFI.out⟩
   case measure => simpa [intOf] using HMS.out
  case neg => as_aux_lemma =>
   obtain rfl : k = K := by omega
   have HTK : Hid (rs.take k = rs.take 64) := Lib.hid (by
    have h1 := HK.out
    have h2 := HRN.out
    by_cases hr : rn ≤ 64
    · rw [List.take_of_length_le (by omega), List.take_of_length_le (by omega)]
    · have : k = 64 := by omega
      rw [this])
   rw [HTK.out] at HA4
   rw [← HAP.out, ← HAR.out] at HA4
   have HYL : Hid (YF.length = k) := Lib.hid (by rw [HAR.out, repsF_len, ← HTK.out, List.length_take]; have := HK.out; have := HRN.out; omega)
   have hcase : ¬ (k : Int) < (rn : Int) ∨ ((k : Int) < (rn : Int) ∧ ¬ (k : Int) < 64) := by
    have := HK.out
    omega
   clear hlt hk HAP HAR HTK HS1 HI1 HON
   rcases hcase with hk1 | ⟨hk1, hk2⟩
   all_goals
    go_upto_region 8 with fail
    clear hk1 q1
    have HAd := Lib.hid (HA4.out.below (below_drew _))
    obtain ⟨Sb4, st4, ve4, vw4, vn4, hd4, hi4, hns4, hS4⟩ := HAd.out.ld
    obtain ⟨lo, lc, rfl, _, hlcm⟩ := own_shape hd4.re
    obtain ⟨ln, hln⟩ : ∃ ln, ln = SF.es.length := ⟨_, rfl⟩
    have HLN : Hid (SF.es.length = ln ∧ ln ≤ 400) := Lib.hid ⟨hln.symm, by rw [hln]; exact hi4.len.2.1⟩
    obtain ⟨_, _, _, c3, c4, _, _⟩ := hd4.cells
    rw [← hln] at c4
    have hYr : XApAt S W w wr.drew n m E SF T X B q N Z Q seen ro rn rc YF (.slice ao YF.length c) S4 := by rw [HYL.out]; exact HAd.out
    have HE := Lib.hid (hYr.end_ HWW.out)
    rw [← hln] at HE
    have HEV : Hid (EvsAt wr.drew lo SF.evs ∧ (lo = none → ln = 0) ∧ ln ≤ lc) := Lib.hid (by
     refine ⟨evs_of_own (by unfold LS.evs; rw [List.length_map]) hd4.re, fun e => ?_, ?_⟩
     · rw [hln]
       by_cases h0 : SF.es.length = 0
       · exact h0
       · obtain ⟨g, hg, _⟩ := own_cell hd4.re (by omega)
         rw [e] at hg; cases hg
     · obtain ⟨_, _, h1, h2, h3⟩ := own_shape hd4.re
       simp only [Value.slice.injEq] at h1
       omega)
    have HLB : Hid (∀ a, lo = some a → a.block < wr.heap.size ∧ S4 a.block) := Lib.hid (fun a ha => by
     have hb := own_blk hd4.re a ha
     exact ⟨(hd4.re.lt _ hb).2, (hS4 _).2 (Or.inr (Or.inr (Or.inl hb)))⟩)
    have HXX : Hid (S4 X ∧ X ≠ N ∧ Q ≠ N ∧ X < wr.heap.size ∧ Q < wr.heap.size) := Lib.hid (by
     have h1 : S4 X := (hS4 X).2 (Or.inr (Or.inl rfl))
     exact ⟨h1, fun e => HAd.out.ap.1 (e ▸ h1), fun e => HAd.out.ap.2.2.2.2.1 e.symm, blk_lt hd4.box, blk_lt HAd.out.qb⟩)
    have n0 := blk_cell HAd.out.nb 0
    have g0 := blk_frozen HAd.out.nb 0
    have n1 := blk_cell HAd.out.nb 1
    have g1 := blk_frozen HAd.out.nb 1
    have q0 := blk_cell HAd.out.qb 0
    simp only [lq] at n0 n1 q0
    have HQ0 := Lib.hid q0
    clear hd4 hi4 hns4 hS4 hln hYr q0 HA4
    refine wp_region_held_drew (S := fun w' => w'.cell? ⟨X, 3, none⟩ = some (.int .i64 SF.ck) ∧ w'.cell? ⟨X, 4, none⟩ = some (.slice lo ln lc)) (by kernel_rfl) ?_ (fun hHeld => ?_)
    · exact ⟨c3, c4⟩
    refine tk 0 49 ?_
    simp only [lz]
    refine tk 1 50 ?_
    simp only [lz]
    refine tk 2 51 ?_
    simp only [lz]
    refine tk 3 52 ?_
    simp only [lz]
    refine tk 4 53 ?_
    simp only [lz]
    refine tk 5 54 ?_
    simp only [lz]
    refine tk 6 55 ?_
    simp only [lz]
    refine tk 7 56 ?_
    simp only [lz]
    refine tk 8 57 ?_
    simp only [lz]
    refine tk 9 58 ?_
    simp only [lz]
    refine wpAnyH_ready (rs := [10]) (by kernel_rfl) (by simp) ?_
    refine AllReadyH.cons rfl (fun K hK => ?_) AllReadyH.nil
    go_simp
    obtain ⟨wa, hwa⟩ : ∃ wa, wa = (wr.setCell ⟨N, 0, none⟩ (.int .i64 SF.ck)).drew := ⟨_, rfl⟩
    have hwb : wa = wr.drew.setCell ⟨N, 0, none⟩ (.int .i64 SF.ck) := hwa
    rw [← hwa]
    have HX1 : Hid (wa.cell? ⟨X, 3, none⟩ = some (.int .i64 SF.ck) ∧ wa.cell? ⟨X, 4, none⟩ = some (.slice lo ln lc)) := Lib.hid ⟨by
     rw [hwb, World.cell?_setCell_other _ ⟨N, 0, none⟩ ⟨X, 3, none⟩ _ (by first | (simp [HXX.out.2.1]; done) | (simp; exact fun e => absurd e.symm HXX.out.2.1))]
     exact c3, by
     rw [hwb, World.cell?_setCell_other _ ⟨N, 0, none⟩ ⟨X, 4, none⟩ _ (by first | (simp [HXX.out.2.1]; done) | (simp; exact fun e => absurd e.symm HXX.out.2.1))]
     exact c4⟩
    have HNA := blk_set HAd.out.nb 0 (.int .i64 SF.ck)
    rw [← hwb] at HNA
    have n1a := blk_cell HNA 1
    have g1a := blk_frozen HNA 1
    have HWA := Lib.hid hwb
    clear hwa hwb HNA n0 g0 n1 g1 c3 c4
    go_wp2_with fail
    refine hK.out _ _ ?_ (fun hHeld => ?_)
    · exact HX1.out
    clear hK K
    try simp only [Act.put, lg]
    try simp only [lz]
    refine tk 11 59 ?_
    simp only [lz]
    refine wpAnyH_ready (rs := [12]) (by kernel_rfl) (by simp) ?_
    refine AllReadyH.cons rfl (fun K hK => ?_) AllReadyH.nil
    go_simp
    have HX2 : Hid ((wa.setCell ⟨N, 1, none⟩ (.int .i64 (ln : Int))).cell? ⟨X, 3, none⟩ = some (.int .i64 SF.ck) ∧ (wa.setCell ⟨N, 1, none⟩ (.int .i64 (ln : Int))).cell? ⟨X, 4, none⟩ = some (.slice lo ln lc)) := Lib.hid ⟨by
     rw [World.cell?_setCell_other _ ⟨N, 1, none⟩ ⟨X, 3, none⟩ _ (by first | (simp [HXX.out.2.1]; done) | (simp; exact fun e => absurd e.symm HXX.out.2.1))]
     exact HX1.out.1, by
     rw [World.cell?_setCell_other _ ⟨N, 1, none⟩ ⟨X, 4, none⟩ _ (by first | (simp [HXX.out.2.1]; done) | (simp; exact fun e => absurd e.symm HXX.out.2.1))]
     exact HX1.out.2⟩
    go_wp2_with fail
    refine hK.out _ _ ?_ (fun hHeld => ?_)
    · exact HX2.out
    clear hK K
    try simp only [Act.put, lg]
    try simp only [lz]
    refine wpAnyH_done (by kernel_rfl) ?_ _
    clear hHeld
    obtain ⟨w5, hw5⟩ : ∃ w5, w5 = wa.setCell ⟨N, 1, none⟩ (.int .i64 (ln : Int)) := ⟨_, rfl⟩
    rw [← hw5]
    rw [← HWA.out, ← hw5] at HE
    rw [← hw5] at HX2
    have HK5 : Hid (Keeps (fun i => i = N) wr.drew w5) := Lib.hid (by
     rw [hw5, HWA.out]; exact ((Keeps.refl (fun i => i = N) wr.drew).setCell (p := ⟨N, 0, none⟩) (Or.inl rfl) _).setCell (p := ⟨N, 1, none⟩) (Or.inl rfl) _)
    have HQ5 : Hid (w5.cell? ⟨Q, 0, none⟩ = some (.int .i64 seen)) := Lib.hid ((World.cell?_of_block (a := ⟨Q, 0, none⟩) (HK5.out.block Q (blk_lt HAd.out.qb) HXX.out.2.2.1)).trans HQ0.out)
    have HXX : Hid (S4 X ∧ X ≠ N ∧ Q ≠ N ∧ X < w5.heap.size ∧ Q < w5.heap.size) := Lib.hid (by have h := HXX.out; have h2 := HK5.out.size; exact ⟨h.1, h.2.1, h.2.2.1, Nat.lt_of_lt_of_le h.2.2.2.1 h2, Nat.lt_of_lt_of_le h.2.2.2.2 h2⟩)
    have HEV5 : Hid (EvsAt w5 lo SF.evs) := Lib.hid (HEV.out.1.keep HK5.out (fun a ha e => HAd.out.ap.1 (e ▸ (HLB.out a ha).2)))
    clear hw5 n1a g1a HX1 HQ0 HWA
    obtain ⟨VB, hVB⟩ : ∃ VB : Bool, VB = (decide (0 ≤ seen) && decide (seen ≤ (ln : Int))) := ⟨_, rfl⟩
    have HVB := Lib.hid hVB
    clear hVB
    have q05 := HQ5.out
    have x4 := HX2.out.2
    go_upto_region 9 with fail
    go_cut [72] (fun a wx => a = .bool VB ∧ wx = w5.drew)
    case first =>
     by_cases hs0 : 0 ≤ seen
     case neg =>
      have HVF : Hid (VB = false) := Lib.hid (by rw [HVB.out]; simp [hs0])
      refine wp_region_held_drew (S := fun w' => w'.cell? ⟨Q, 0, none⟩ = some (.int .i64 seen) ∧ w'.cell? ⟨X, 4, none⟩ = some (.slice lo ln lc)) (by kernel_rfl) ?_ (fun hHeld => ?_)
      · exact ⟨q05, x4⟩
      refine tk 0 60 ?_
      simp only [lz]
      refine tk 1 61 ?_
      simp only [lz]
      refine tk 2 62 ?_
      simp only [lz]
      refine tk 3 63 ?_
      simp only [lz]
      refine tu 4 64 ?_
      simp only [lz]
      refine tu 5 65 ?_
      simp only [lz]
      refine tu 6 66 ?_
      simp only [lz]
      refine tu 7 67 ?_
      simp only [lz]
      refine tu 8 68 ?_
      simp only [lz]
      refine tu 9 69 ?_
      simp only [lz]
      refine tu 10 70 ?_
      simp only [lz]
      refine tu 11 71 ?_
      simp only [lz]
      refine tk 12 72 ?_
      simp only [lz]
      refine wpAnyH_done (by kernel_rfl) ?_ _
      go_wp2_with fail
      go_meet
      case rel => exact ⟨by rw [HVF.out], rfl⟩
     case pos =>
      have HVT : Hid (decide (seen ≤ (ln : Int)) = VB) := Lib.hid (by rw [HVB.out]; simp [hs0])
      refine wp_region_held_drew (S := fun w' => w'.cell? ⟨Q, 0, none⟩ = some (.int .i64 seen) ∧ w'.cell? ⟨X, 4, none⟩ = some (.slice lo ln lc)) (by kernel_rfl) ?_ (fun hHeld => ?_)
      · exact ⟨q05, x4⟩
      refine tk 0 60 ?_
      simp only [lz]
      refine tk 1 61 ?_
      simp only [lz]
      refine tk 2 62 ?_
      simp only [lz]
      refine tk 3 63 ?_
      simp only [lz]
      refine tk 4 64 ?_
      simp only [lz]
      refine tk 5 65 ?_
      simp only [lz]
      refine tk 6 66 ?_
      simp only [lz]
      refine tk 7 67 ?_
      simp only [lz]
      refine tk 8 68 ?_
      simp only [lz]
      refine tk 9 69 ?_
      simp only [lz]
      refine tk 10 70 ?_
      simp only [lz]
      refine tk 11 71 ?_
      simp only [lz]
      refine tk 12 72 ?_
      simp only [lz]
      refine wpAnyH_done (by kernel_rfl) ?_ _
      go_wp2_with fail
      go_meet
      case rel => exact ⟨by rw [HVT.out], rfl⟩
    case rest =>
    obtain ⟨rfl, rfl⟩ := hcut
    rename World => w5
    clear q05 x4
    go_upto_if 72 with fail
    go_cut [] (fun wx => ∃ ea ec, XApE S W w wx n m E SF T X B q N Z ao c YF ea ec (dropF SF.evs seen) S4)
    case first =>
     cases VB
     case false =>
      have HDR : Hid (dropF SF.evs seen = []) := Lib.hid (by
       unfold dropF LS.evs
       rw [if_neg (by
        rw [List.length_map, HLN.out.1]
        have h := HVB.out.symm
        simp only [Bool.and_eq_false_iff, decide_eq_false_iff_not] at h
        omega)])
      go_wp2_with fail
      go_meet
      case rel => exact ⟨none, 0, by rw [HDR.out]; exact HE.out.below (below_drew _)⟩
     case true =>
      have hss : 0 ≤ seen ∧ seen ≤ (ln : Int) := by
       have h := HVB.out.symm
       simpa only [Bool.and_eq_true, decide_eq_true_eq] using h
      obtain ⟨sn, rfl⟩ : ∃ sn : Nat, seen = (sn : Int) := ⟨seen.toNat, by omega⟩
      have hsn : sn ≤ ln := by omega
      have HSN : Hid (sn ≤ ln ∧ SF.evs.length = ln) := Lib.hid ⟨hsn, by unfold LS.evs; rw [List.length_map]; exact HLN.out.1⟩
      have HDR : Hid (dropF SF.evs (sn : Int) = SF.evs.drop sn) := Lib.hid (by unfold dropF; rw [if_pos (by rw [HSN.out.2]; omega), Int.toNat_natCast])
      have HLEN : Hid ((SF.evs.drop sn).length = ln - sn) := Lib.hid (by rw [List.length_drop, HSN.out.2])
      have hse : ∀ (w : World), (Instr.slice 35 (.slice lo ln lc) (some (.int .i64 (sn : Int))) none none).run Tryz.prog w = .ok (.slice (slcE lo sn lc) (ln - sn) (lc - sn)) w := fun w => slice_ev lo ln lc sn hsn w
      have HDV : Hid (EvsAt w5 (slcE lo sn lc) (SF.evs.drop sn)) := Lib.hid (slcE_at HEV5.out sn (by have := HSN.out; omega) (by have := HSN.out; have := HEV.out.2.2; omega))
      have HDN : Hid (slcE lo sn lc = none → ln - sn = 0) := Lib.hid (fun e => by
       unfold slcE at e
       split at e
       · have := HEV.out.2.2; omega
       · cases h : lo with
         | none => have := HEV.out.2.1 h; omega
         | some a => rw [h] at e; cases e)
      obtain ⟨i0, hi0, hz0, hz1, hz2⟩ := info_parts Try_infoE9
      obtain ⟨D, hD⟩ : ∃ D, D = ln - sn := ⟨_, rfl⟩
      have HD : Hid (D = ln - sn ∧ D ≤ 400) := Lib.hid ⟨hD, by have := HLN.out; omega⟩
      generalize slcE lo sn lc = so at *
      generalize lc - sn = sc at *
      rw [← hD] at hse HDN HLEN
      generalize SF.evs.drop sn = DV at *
      have q05 := HQ5.out
      have x4 := HX2.out.2
      clear hsn hss hD
      go_upto_region 10 with fail
      refine wp_region_held_drew (S := fun w' => w'.cell? ⟨Q, 0, none⟩ = some (.int .i64 (sn : Int)) ∧ w'.cell? ⟨X, 4, none⟩ = some (.slice lo ln lc)) (by kernel_rfl) ?_ (fun hHeld => ?_)
      · exact ⟨q05, x4⟩
      refine tk 1 74 ?_
      simp only [lz]
      refine tk 2 75 ?_
      simp only [lz]
      refine tk 3 76 ?_
      simp only [lz]
      refine tk 4 77 ?_
      simp only [lz]
      refine tk 5 78 ?_
      simp only [lz]
      refine tk 6 79 ?_
      simp only [lz]
      refine tk 7 80 ?_
      simp only [lz]
      refine wpAnyH_ready (rs := [0]) (by kernel_rfl) (by simp) ?_
      refine AllReadyH.cons rfl (fun K hK => ?_) AllReadyH.nil
      go_simp
      obtain ⟨w6, hw6⟩ : ∃ w6, w6 = (w5.alloc (.cells #[] 55)).drew.drew := ⟨_, rfl⟩
      obtain ⟨P6, hP6⟩ : ∃ P6, P6 = w5.heap.size := ⟨_, rfl⟩
      rw [← hw6, ← hP6]
      have hb6 : Below w5.heap.size w5 w6 := by rw [hw6]; exact ((Below.refl _ _).alloc (Nat.le_refl _) _).drew.drew
      have HQ6 : Hid (w6.cell? ⟨Q, 0, none⟩ = some (.int .i64 (sn : Int)) ∧ w6.cell? ⟨X, 4, none⟩ = some (.slice lo ln lc)) := Lib.hid ⟨(World.cell?_of_block (a := ⟨Q, 0, none⟩) (hb6.block Q HXX.out.2.2.2.2)).trans HQ5.out, (World.cell?_of_block (a := ⟨X, 4, none⟩) (hb6.block X HXX.out.2.2.2.1)).trans HX2.out.2⟩
      have HR6 : Hid (w6.ownsRow 0 55 9 (.slice (some ⟨P6, 0, none⟩) 0 0) 0 []) := Lib.hid ⟨rfl, Or.inr ⟨P6, 0, #[], rfl, Nat.zero_le _, by rw [hw6, hP6]; exact heap_alloc_new w5 _, Nat.zero_le _, Nat.zero_le _, rfl, rfl⟩⟩
      have HDV6 : Hid (EvsAt w6 so DV) := Lib.hid (HDV.out.below hb6)
      have HB6 : Hid (P6 = w5.heap.size ∧ Below w5.heap.size w5 w6) := Lib.hid ⟨hP6, hb6⟩
      clear hw6 hb6 hP6
      go_wp2_with fail
      refine hK.out _ _ ?_ (fun hHeld => ?_)
      · exact HQ6.out
      clear hK K
      try simp only [Act.put, lg]
      try simp only [lz]
      refine wpAnyH_ready (rs := [8]) (by kernel_rfl) (by simp) ?_
      refine AllReadyH.cons rfl (fun K hK => ?_) AllReadyH.nil
      refine step_append_any (by rfl) _ _ 35 (by rfl) 55 i0 _ 9 88 Tryz.underlying35 hi0 hz0 hz1 hz2 rfl (by decide) (.slice (some ⟨P6, 0, none⟩) 0 0) 0 [] (by rfl) HR6.out so D sc (DV.flatMap EV.list) (by rfl) (by rw [evl_len, HLEN.out]) (fun e => HDN.out e) (src_evs HDV6.out) (evl_one _) (by have := HD.out; unfold maxLen; omega) (by have := HD.out; omega) ?_
      intro ao8 cap8 w8 hown hgrow hat hnn
      rw [List.nil_append, Nat.zero_add] at hown
      simp only [Nat.zero_add] at hat ⊢
      have HB8 : Hid (Below w5.heap.size w5 w8) := Lib.hid (below_fp HB6.out.2 ((Keeps.refl (fun i => (Value.slice (some (⟨P6, 0, none⟩ : Addr)) 0 0).ownBlock = some i) w6).grown hgrow (fun i hi => Or.inl hi)) (fun i hi => by simp only [Value.ownBlock, Option.some.injEq] at hi; have := HB6.out.1; omega))
      have HO8 := Lib.hid hown
      have HF8 : Hid (∀ g, (Value.slice ao8 D cap8).ownBlock = some g → w5.heap.size ≤ g) := Lib.hid (fun g hg => by
       rcases hat g hg with h | h
       · simp only [Value.ownBlock, Option.some.injEq] at h; have := HB6.out.1; omega
       · have := HB6.out.2.size; omega)
      have HQ8 : Hid (w8.cell? ⟨Q, 0, none⟩ = some (.int .i64 (sn : Int)) ∧ w8.cell? ⟨X, 4, none⟩ = some (.slice lo ln lc)) := Lib.hid ⟨(World.cell?_of_block (a := ⟨Q, 0, none⟩) (HB8.out.block Q HXX.out.2.2.2.2)).trans HQ5.out, (World.cell?_of_block (a := ⟨X, 4, none⟩) (HB8.out.block X HXX.out.2.2.2.1)).trans HX2.out.2⟩
      have HE8 := Lib.hid (HE.out.below HB8.out)
      have n3 := blk_cell HE8.out.nb 3
      have g3 := blk_frozen HE8.out.nb 3
      simp only [lq] at n3
      clear hown hgrow hat hnn
      go_wp2_with fail
      refine hK.out _ _ ?_ (fun hHeld => ?_)
      · exact HQ8.out
      clear hK K
      try simp only [Act.put, lg]
      try simp only [lz]
      refine tk 9 82 ?_
      simp only [lz]
      refine wpAnyH_ready (rs := [10]) (by kernel_rfl) (by simp) ?_
      refine AllReadyH.cons rfl (fun K hK => ?_) AllReadyH.nil
      go_simp
      have HQ9 : Hid ((w8.setCell ⟨N, 3, none⟩ (.slice ao8 D cap8)).cell? ⟨Q, 0, none⟩ = some (.int .i64 (sn : Int)) ∧ (w8.setCell ⟨N, 3, none⟩ (.slice ao8 D cap8)).cell? ⟨X, 4, none⟩ = some (.slice lo ln lc)) := Lib.hid ⟨by
       rw [World.cell?_setCell_other _ ⟨N, 3, none⟩ ⟨Q, 0, none⟩ _ (by first | (simp [HXX.out.2.2.1]; done) | (simp; exact fun e => absurd e.symm HXX.out.2.2.1))]
       exact HQ8.out.1, by
       rw [World.cell?_setCell_other _ ⟨N, 3, none⟩ ⟨X, 4, none⟩ _ (by first | (simp [HXX.out.2.1]; done) | (simp; exact fun e => absurd e.symm HXX.out.2.1))]
       exact HQ8.out.2⟩
      go_wp2_with fail
      refine hK.out _ _ ?_ (fun hHeld => ?_)
      · exact HQ9.out
      clear hK K
      try simp only [Act.put, lg]
      try simp only [lz]
      refine wpAnyH_done (by kernel_rfl) ?_ _
      clear hHeld
      have HE9 : Hid (XApE S W w (w8.setCell ⟨N, 3, none⟩ (.slice ao8 D cap8)) n m E SF T X B q N Z ao c YF ao8 cap8 DV S4) := Lib.hid (by
       obtain ⟨_, _, h1, h2, h3⟩ := own_shape HO8.out
       simp only [Value.slice.injEq] at h1
       obtain ⟨_, _, rfl⟩ := h1
       have hN := blk_lt HE.out.nb
       obtain ⟨_, _, _, _, hz⟩ := HE.out.zb
       have hZ := blk_lt hz
       have hw := HE.out.kp.size
       have h := HE8.out.evs (ea := ao8) (ec := cap8) (evs_of_own HLEN.out HO8.out) (by rw [HLEN.out]; exact ⟨h2, h3⟩) (fun a ha => by
        have hb := HF8.out a.block (own_blk HO8.out a ha)
        exact ⟨fun hh => by have := HE.out.ld.lt a.block hh; omega, by omega, by omega, by omega⟩)
       rw [HLEN.out] at h
       exact h)
      clear HO8 HF8 HQ8 HE8 HB8 HB6 HQ6 HR6 HDV6 HQ9 n3 g3
      go_wp2_with fail
      go_meet
      case rel => exact ⟨ao8, cap8, by rw [HDR.out]; exact HE9.out⟩
    case rest =>
    obtain ⟨ea, ec, hfe⟩ := hcut
    rename World => w7
    have HE7 := Lib.hid hfe
    clear hfe HE HEV HEV5 HX2 HQ5 HK5 HVB HLB HAd
    have HLY : Hid (SF.es.length = ln) := Lib.hid HLN.out.1
    generalize hES : dropF SF.evs seen = ES at *
    have m0 := blk_cell HE7.out.nb 0
    have m1 := blk_cell HE7.out.nb 1
    have m2 := blk_cell HE7.out.nb 2
    have m3 := blk_cell HE7.out.nb 3
    obtain ⟨u0, u1, u2, u3, hz⟩ := HE7.out.zb
    have z0 := blk_cell hz 0
    have z1 := blk_cell hz 1
    have z2 := blk_cell hz 2
    have z3 := blk_cell hz 3
    have y0 := blk_frozen hz 0
    have y1 := blk_frozen hz 1
    have y2 := blk_frozen hz 2
    have y3 := blk_frozen hz 3
    simp only [lq] at m0 m1 m2 m3 z0 z1 z2 z3
    rw [HLY.out] at m1
    have HZ := Lib.hid hz
    clear hz
    go_wp2_with fail
    obtain ⟨wf, hwf⟩ : ∃ wf, wf = fillA w7 Z (.int .i64 SF.ck) (.int .i64 (ln : Int)) (.slice ao YF.length c) (.slice ea ES.length ec) := ⟨_, rfl⟩
    have HF := Lib.hid (HE7.out.fin (w' := w7) (.int .i64 SF.ck) (.int .i64 (ln : Int)) (.slice ao YF.length c) (.slice ea ES.length ec) (Or.inr rfl))
    have HZF := Lib.hid (fillA_box HZ.out (.int .i64 SF.ck) (.int .i64 (ln : Int)) (.slice ao YF.length c) (.slice ea ES.length ec))
    rw [← hwf] at HF HZF
    unfold fillA at hwf
    rw [← hwf]
    clear hwf
    have k0 := blk_cell HZF.out 0
    have k1 := blk_cell HZF.out 1
    have k2 := blk_cell HZF.out 2
    have k3 := blk_cell HZF.out 3
    simp only [lq] at k0 k1 k2 k3
    refine bodyPost_ret (v := .agg #[.int .i64 SF.ck, .int .i64 (ln : Int), .slice ao YF.length c, .slice ea ES.length ec]) (by simp [results, Tryz.results25, go_sem, k0, k1, k2, k3]) rfl ?_
    have hF := HF.out
    rw [HLY.out] at hF
    exact hF
end
theorem RE.event {W w : World} {p : Nat} {bs : List Int} (h : RE W w p bs) (r : EV) (ho : okE true r = true) (hlen : bs.length + 100 ≤ 140737488355328) :
 Calls Tryz.prog 53 #[.pointer (some ⟨p, 0, none⟩), .agg r.cells] w fun en w' => en = .returned (.tuple #[]) ∧ RE W w' p (bs ++ chunkE true r) := by
 obtain ⟨v, h1, h2, h3, h4⟩ := h
 refine (putEvent p v bs r w h1 ho hlen).mono ?_
 rintro en w' ⟨rfl, hp⟩
 exact ⟨rfl, RE.of_post h2 h3 h4 hp⟩
section
variable {Sb : Nat → Prop} {W w : World} {n m : Nat} {E : Int} {s : LS} {T : Nat → Int} {A B tb q : Nat} {v : Value}
set_option maxRecDepth 100000 in
set_option maxHeartbeats 4000000 in
theorem ledger_save (h : LDat Sb W w n m E s T A B tb q v) (hI : LInv n m E s T) (hO : LOk n s) :
 Calls Tryz.prog 19 #[.pointer (some ⟨A, 0, none⟩)] w (EncBPost w (saveB s, 0)) := by
 obtain ⟨lo, lc, rfl, _, _⟩ := own_shape h.row
 obtain ⟨ln, hln⟩ : ∃ ln, ln = s.es.length := ⟨_, rfl⟩
 have H := Lib.hid h
 have HO := Lib.hid hO
 have HI := Lib.hid hI
 have HL : Hid (s.es.length = ln ∧ ln ≤ 400) := Lib.hid ⟨hln.symm, by rw [hln]; exact hI.len.2.1⟩
 have hn16 := hI.bi.good.n16
 have HN16 := Lib.hid hn16
 have HCK := Lib.hid (fits_c hI.tick.1 hI.tick.2)
 have HLF : Hid (fitsB (ln : Int) 2 = true) := Lib.hid (fits_len2 ln (by have := HL.out; omega))
 have HCE := Lib.hid (fun w' (hb : Below w.heap.size w w') => (h.below hb).cells)
 have HDN := Lib.hid (fun w' (hb : Below w.heap.size w w') (i : Nat) (hi : i < s.es.length) => (h.below hb).dn i hi)
 rw [← hln] at HCE
 obtain ⟨i0, hi0, hz0, hz1, hz2⟩ := info_parts Try_infoU8
 clear h hO hI hln hn16
 go_enter Tryz.func19, Tryz.ntmps19
 go_wp2_with fail
 refine (newEnc _).mono ?_
 rintro en w1 ⟨rfl, hw1⟩
 have HE1 : Hid (EN w w1 w.heap.size []) := Lib.hid (by rw [hw1]; exact en_new (Below.refl _ _))
 obtain ⟨P, hP⟩ : ∃ P, P = w.heap.size := ⟨_, rfl⟩
 rw [← hP] at HE1 ⊢
 clear hw1 hP
 obtain ⟨_, _, c3, c4⟩ := HCE.out w1 HE1.out.bel
 go_wp2_with fail
 refine (HE1.out.num s.ck 8 HCK.out (by simp)).mono ?_
 rintro en w2 ⟨rfl, he2⟩
 have HE2 := Lib.hid he2
 clear he2 c3 c4
 obtain ⟨_, _, c3, c4⟩ := HCE.out w2 HE2.out.bel
 go_wp2_with fail
 refine (HE2.out.num (ln : Int) 2 HLF.out (by simp [putB_length])).mono ?_
 rintro en w3 ⟨rfl, he3⟩
 have HE3 : Hid (EN w w3 P (headB s)) := Lib.hid (by unfold headB; rw [HL.out.1]; exact he3)
 clear he3 c3 c4
 go_wp2_with fail
 refine (HE3.out.done (by rw [headB_len]; omega)).mono ?_
 rintro en w4 ⟨ho, hc, rfl, hr4⟩
 have HR4 : Hid (RowAt w (.slice ho (saveK s 0).length hc) (saveK s 0) w4) := Lib.hid (by rw [saveK_zero]; exact hr4)
 have HHL : Hid ((headB s).length = (saveK s 0).length) := Lib.hid (by rw [saveK_zero])
 rw [HHL.out]
 clear hr4
 obtain ⟨_, _, _, c4⟩ := HCE.out w4 HR4.out.2.1
 go_wp2_with fail
 clear c4
 go_loopw [4, 36] (fun b i wr => ∃ k : Nat, k ≤ ln ∧ i = .int .i64 (k : Int) ∧ ∃ ao c, b = .slice ao (saveK s k).length c ∧ RowAt w (.slice ao (saveK s k).length c) (saveK s k) wr) (fun _ i _ => ln - (intOf i).toNat)
 case atStart => exact ⟨0, by omega, rfl, ho, hc, rfl, HR4.out⟩
 case round =>
  obtain ⟨k, hk, rfl, ao, c, rfl, hrow⟩ := hrel
  have HROW := Lib.hid hrow
  clear hrow
  by_cases hlt : k < ln
  · have k0 : (0 : Int) ≤ (k : Int) := by omega
    have k1 : (k : Int) < (ln : Int) := by omega
    have hkl : k < s.es.length := by rw [HL.out.1]; exact hlt
    have HKL : Hid (k < ln) := Lib.hid hlt
    obtain ⟨g, hlo, hc⟩ := HDN.out wr HROW.out.2.1 k hkl
    subst hlo
    have HSK := Lib.hid (saveK_succ s k hkl)
    have HOD := Lib.hid (HO.out s.es[k] (List.getElem_mem hkl))
    have HSL := Lib.hid (saveK_len HO.out k (by omega))
    generalize s.es[k] = d at *
    have e0 := hc 0 (by omega)
    have e1 := hc 1 (by omega)
    have e2 := hc 2 (by omega)
    have e3 := hc 3 (by omega)
    have e4 := hc 4 (by omega)
    have e5 := hc 5 (by omega)
    have e6 := hc 6 (by omega)
    have e7 := hc 7 (by omega)
    have e8 := hc 8 (by omega)
    have e9 := hc 9 (by omega)
    have e10 := hc 10 (by omega)
    simp only [DN.cells, lq, Nat.add_zero] at e0 e1 e2 e3 e4 e5 e6 e7 e8 e9 e10
    obtain ⟨w5, hw5⟩ : ∃ w5, w5 = wr.alloc (.cells d.cells 106) := ⟨_, rfl⟩
    obtain ⟨V, hV⟩ : ∃ V, V = wr.heap.size := ⟨_, rfl⟩
    have hb5 : Below wr.heap.size wr w5 := by rw [hw5]; exact (Below.refl _ _).alloc (Nat.le_refl _) _
    have HX5 : Hid (DnB w5 V d) := Lib.hid (by rw [hw5, hV]; exact heap_alloc_new _ _)
    have HR5 := Lib.hid (HROW.out.below hb5)
    have HW5 := Lib.hid hw5
    have HV := Lib.hid hV
    have HDC : Hid (∀ w', Below w5.heap.size w5 w' → DnB w' V d) := Lib.hid (fun w' hb => (hb.block V (blk_lt HX5.out)).trans HX5.out)
    unfold DN.cells at HW5
    have HML : Hid (ln - (k + 1) < ln - k) := Lib.hid (by omega)
    clear hc hw5 hb5 hV hk hlt hkl
    go_upto_region 9 with fail
    rw [← HW5.out, ← HV.out]
    clear e0 e1 e2 e3 e4 e5 e6 e7 e8 e9 e10 HW5
    go_wp2_with fail
    refine (newEnc _).mono ?_
    rintro en w6 ⟨rfl, hw6⟩
    have HE6 : Hid (EN w5 w6 w5.heap.size []) := Lib.hid (by rw [hw6]; exact en_new (Below.refl _ _))
    obtain ⟨Q, hQ⟩ : ∃ Q, Q = w5.heap.size := ⟨_, rfl⟩
    rw [← hQ] at HE6 ⊢
    clear hw6 hQ
    obtain ⟨q0, q1, q2, q3, q4, q5, q6, q7, q8, q9, q10⟩ := (HDC.out w6 HE6.out.bel).all
    go_wp2_with fail
    refine (HE6.out.num d.p 1 (fits_p HOD.out.2.1 (by have := HOD.out.2.2.1; have := HN16.out; omega)) (by simp)).mono ?_
    rintro en w7 ⟨rfl, he7⟩
    have HE7 := Lib.hid he7
    clear he7 q0 q1 q2 q3 q4 q5 q6 q7 q8 q9 q10
    obtain ⟨q0, q1, q2, q3, q4, q5, q6, q7, q8, q9, q10⟩ := (HDC.out w7 HE7.out.bel).all
    go_wp2_with fail
    refine (HE7.out.num d.c 8 (fits_c HOD.out.2.2.2.1 HOD.out.2.2.2.2) (by simp [putB_length])).mono ?_
    rintro en w8 ⟨rfl, he8⟩
    have HE8 : Hid (EN w5 w8 Q (hdD d)) := Lib.hid he8
    clear he8 q0 q1 q2 q3 q4 q5 q6 q7 q8 q9 q10
    go_wp2_with fail
    refine (HE8.out.done (by unfold hdD; simp [putB_length])).mono ?_
    rintro en w9 ⟨do_, dc, rfl, hr9⟩
    have HR9 := Lib.hid hr9
    have HDL : Hid ((hdD d).length = 9) := Lib.hid (by unfold hdD; simp [putB_length])
    rw [HDL.out]
    rw [HDL.out] at HR9
    clear hr9
    obtain ⟨q0, q1, q2, q3, q4, q5, q6, q7, q8, q9, q10⟩ := (HDC.out w9 HR9.out.2.1).all
    obtain ⟨x, hx⟩ : ∃ x, x = d.e := ⟨_, rfl⟩
    rw [← hx] at q2 q3 q4 q5 q6 q7 q8 q9 q10 HSK
    have hok : okE true x = true := by rw [hx]; exact HOD.out.1
    have HCL := Lib.hid (chunkE_len hok)
    have HEE := Lib.hid (encodeEvent x w9 (by have := okE_size hok; omega))
    rw [evF_eq, if_pos hok] at HEE
    unfold EV.cells at HEE
    clear hx hok
    go_wp2_with fail
    refine HEE.out.mono ?_
    rintro en wa ⟨eo, ec, rfl, hia, hba, hna, hca, hcm⟩
    obtain ⟨L, hL⟩ : ∃ L, L = (chunkE true x).length := ⟨_, rfl⟩
    dsimp only at hia hca ⊢
    rw [← hL] at hca ⊢
    have HEI := Lib.hid hia
    have HEN := Lib.hid hna
    have HLL := Lib.hid hL
    have HRa := Lib.hid ((HR5.out.below HR9.out.2.1).below hba)
    have HHa := Lib.hid (ints_below (owns_at HR9.out.1).2.1 hba)
    have HB9 := Lib.hid HR9.out.2.1
    have HL128 : Hid (L ≤ 128) := Lib.hid (by rw [hL]; exact HCL.out)
    clear hia hba hna hca hcm hL q0 q1 q2 q3 q4 q5 q6 q7 q8 q9 q10
    obtain ⟨N, hN⟩ : ∃ N, N = (saveK s k).length := ⟨_, rfl⟩
    rw [← hN] at HRa HSL ⊢
    have hN6 : N ≤ 60000 := by have := HSL.out; have := HKL.out; have := HL.out.2; omega
    have HNN := Lib.hid hN
    clear hN
    have HRW : Hid (wa.ownsRow 0 5 1 (.slice ao N c) N ((saveK s k).map (Value.int .u8))) := Lib.hid (by have h := HRa.out.1; rw [← HNN.out] at h; exact h)
    have HN1 : Hid (do_ = none → (9 : Nat) = 0) := Lib.hid (fun e => by have h := ints_none (e ▸ HHa.out); rw [HDL.out] at h; exact h)
    have HN2 : Hid (eo = none → L = 0) := Lib.hid (fun e => by have h := ints_none (e ▸ HEI.out); rw [← HLL.out] at h; exact h)
    go_wp2_with (at_builtin; refine wpList_append_any rfl _ _ 62 rfl 5 i0 (.int .u8 0) 1 1 Tryz.underlying62 hi0 hz0 hz1 hz2 rfl (by decide) (.slice ao N c) N ((saveK s k).map (Value.int .u8)) rfl HRW.out do_ 9 dc ((hdD d).map (Value.int .u8)) rfl ?c1 (fun e => HN1.out e) (src_ints HHa.out) (ints_one _ _) ?c5 ?c6 ?_)
    case c1 => simp [HDL.out]
    case c5 => unfold maxLen; omega
    case c6 => omega
    intro ap cp wb hown hgrow hat hnn
    have HRWb : Hid (wb.ownsRow 0 5 1 (.slice ap (N + 9) cp) (N + 9) ((saveK s k ++ hdD d).map (Value.int .u8))) := Lib.hid (by rw [List.map_append]; exact hown)
    have HKb : Hid (Keeps (fun i => (Value.slice ao N c).ownBlock = some i) wa wb) := Lib.hid ((Keeps.refl (fun i => (Value.slice ao N c).ownBlock = some i) _).grown hgrow (fun i hi => Or.inl hi))
    have HAb : Hid (∀ g, (Value.slice ap (N + 9) cp).ownBlock = some g → w.heap.size ≤ g) := Lib.hid (fun g hg => by
     rcases hat g hg with h | h
     · exact HRa.out.2.2 g h
     · have := HRa.out.2.1.size; omega)
    have HBb : Hid (Below w.heap.size w wb) := Lib.hid (below_fp HRa.out.2.1 HKb.out (fun i hi => HRa.out.2.2 i hi))
    have HEb : Hid (IntsAt .u8 wb eo (chunkE true x)) := Lib.hid (HEI.out.same (fun a ha hl => HKb.out.block a.block hl (fun e => by
     have h1 := HEN.out a ha
     have h2 := (HR5.out.1.lt a.block (by rw [← HNN.out]; exact e)).2
     have h3 := HB9.out.size
     omega)))
    clear hown hgrow hat hnn
    go_wp2_with (at_builtin; refine wpList_append_any rfl _ _ 62 rfl 5 i0 (.int .u8 0) 1 1 Tryz.underlying62 hi0 hz0 hz1 hz2 rfl (by decide) (.slice ap (N + 9) cp) (N + 9) ((saveK s k ++ hdD d).map (Value.int .u8)) rfl HRWb.out eo L ec ((chunkE true x).map (Value.int .u8)) rfl ?c1 (fun e => HN2.out e) (src_ints HEb.out) (ints_one _ _) ?c5 ?c6 ?_)
    case c1 => simp [HLL.out]
    case c5 => have := HL128.out; unfold maxLen; omega
    case c6 => have := HL128.out; omega
    intro aq cq wc hown hgrow hat hnn
    have HRc : Hid (RowAt w (.slice aq (saveK s (k + 1)).length cq) (saveK s (k + 1)) wc ∧ (saveK s (k + 1)).length = N + 9 + L) := Lib.hid (by
     have hl : (saveK s (k + 1)).length = N + 9 + L := by rw [HSK.out, List.length_append, List.length_append, HDL.out, ← HLL.out, ← HNN.out]
     refine ⟨⟨?_, ?_, ?_⟩, hl⟩
     · rw [hl, HSK.out]; simpa only [List.map_append, List.append_assoc] using hown
     · exact below_fp HBb.out ((Keeps.refl (fun i => (Value.slice ap (N + 9) cp).ownBlock = some i) _).grown hgrow (fun i hi => Or.inl hi)) (fun i hi => HAb.out i hi)
     · intro g hg
       rw [hl] at hg
       rcases hat g hg with h | h
       · exact HAb.out g h
       · have := HBb.out.size; omega)
    clear hown hgrow hat hnn
    have hln := HL.out.2
    go_wp2
    go_roundw
    case rel => exact ⟨k + 1, HKL.out, by go_num, aq, cq, by rw [HRc.out.2], HRc.out.1⟩
    case measure => simpa [intOf] using HML.out
  · obtain rfl : k = ln := by omega
    have HSA : Hid (saveK s k = saveB s) := Lib.hid (by have := saveK_all s; rw [HL.out.1] at this; exact this)
    rw [HSA.out] at HROW ⊢
    clear hlt hk
    go_wp2
    go_ret2
    exact ⟨ao, c, rfl, (owns_at HROW.out.1).2.1, HROW.out.2.1, fun a ha => HROW.out.2.2 a.block (own_blk HROW.out.1 a ha), (owns_at HROW.out.1).2.2⟩
end
section
variable {S Sb : Nat → Prop} {W w : World} {n m : Nat} {E : Int} {s : LS} {T : Nat → Int} {X B q : Nat} {st ve vw vn : Value}
theorem XDat.who {wo : Option Addr} {wn wc : Nat} (h : XDat Sb W w n m E s X B q st ve (.slice wo wn wc) vn) (i : Nat) (hi : i < s.es.length) : ∃ g, wo = some ⟨g, 0, none⟩ ∧ w.cell? ⟨g, i, none⟩ = some (.int .i64 s.es[i].p) := by
 have hr := h.rw_
 obtain ⟨_, _, hv, _, _⟩ := own_shape hr
 simp only [Value.slice.injEq] at hv
 obtain ⟨rfl, rfl, rfl⟩ := hv
 obtain ⟨g, rfl, hc⟩ := own_cell hr (by omega)
 exact ⟨g, rfl, hc i _ (by unfold whoL; rw [List.getElem?_map, List.getElem?_eq_getElem hi]; rfl)⟩
theorem XDat.when_ {wo : Option Addr} {wn wc : Nat} (h : XDat Sb W w n m E s X B q st ve vw (.slice wo wn wc)) (i : Nat) (hi : i < s.es.length) : ∃ g, wo = some ⟨g, 0, none⟩ ∧ w.cell? ⟨g, i, none⟩ = some (.int .i64 s.es[i].c) := by
 have hr := h.rn
 obtain ⟨_, _, hv, _, _⟩ := own_shape hr
 simp only [Value.slice.injEq] at hv
 obtain ⟨rfl, rfl, rfl⟩ := hv
 obtain ⟨g, rfl, hc⟩ := own_cell hr (by omega)
 exact ⟨g, rfl, hc i _ (by unfold whenL; rw [List.getElem?_map, List.getElem?_eq_getElem hi]; rfl)⟩
theorem XDat.evt {wo : Option Addr} {wn wc : Nat} (h : XDat Sb W w n m E s X B q st (.slice wo wn wc) vw vn) (i : Nat) (hi : i < s.es.length) : ∃ g, wo = some ⟨g, 0, none⟩ ∧ ∀ j, j < 9 → w.cell? ⟨g, i * 9 + j, none⟩ = s.es[i].e.cells[j]? := by
 have hr := h.re
 obtain ⟨_, _, hv, _, _⟩ := own_shape hr
 simp only [Value.slice.injEq] at hv
 obtain ⟨rfl, rfl, rfl⟩ := hv
 obtain ⟨g, rfl, hc⟩ := own_cell hr (by omega)
 refine ⟨g, rfl, fun j hj => ?_⟩
 have hl : i < s.evs.length := by unfold LS.evs; rw [List.length_map]; exact hi
 have hf := flat_get EV.list 9 (fun _ => rfl) s.evs i hl j hj
 have he : s.evs[i] = s.es[i].e := by simp only [LS.evs, List.getElem_map]
 rw [he] at hf
 have hx : (s.es[i].e.list)[j]? = s.es[i].e.cells[j]? := Array.getElem?_toList
 rw [hx] at hf
 obtain ⟨u, hu⟩ : ∃ u, s.es[i].e.cells[j]? = some u := ⟨_, Array.getElem?_eq_getElem (show j < s.es[i].e.cells.size from hj)⟩
 rw [hu] at hf ⊢
 exact hc _ u hf
set_option maxRecDepth 100000 in
set_option maxHeartbeats 4000000 in
theorem xledger_save (h : XDat Sb W w n m E s X B q st ve vw vn) (hI : LInv n m E s T) (hO : LOk n s) :
 Calls Tryz.prog 24 #[.pointer (some ⟨X, 0, none⟩)] w (REncPost w (saveB s, 0)) := by
 obtain ⟨eo, ec, rfl, _, _⟩ := own_shape h.re
 obtain ⟨wo, wc, rfl, _, _⟩ := own_shape h.rw_
 obtain ⟨no, nc, rfl, _, _⟩ := own_shape h.rn
 obtain ⟨ln, hln⟩ : ∃ ln, ln = s.es.length := ⟨_, rfl⟩
 have HO := Lib.hid hO
 have HL : Hid (s.es.length = ln ∧ ln ≤ 400) := Lib.hid ⟨hln.symm, by rw [hln]; exact hI.len.2.1⟩
 have HN16 := Lib.hid hI.bi.good.n16
 have HCK := Lib.hid (fits_c hI.tick.1 hI.tick.2)
 have HLF : Hid (fitsB (ln : Int) 2 = true) := Lib.hid (fits_len2 ln (by have := HL.out; omega))
 have HCE := Lib.hid (fun w' (hb : Below w.heap.size w w') => (h.below hb).cells)
 have HWO := Lib.hid (fun w' (hb : Below w.heap.size w w') (i : Nat) (hi : i < s.es.length) => (h.below hb).who i hi)
 have HWN := Lib.hid (fun w' (hb : Below w.heap.size w w') (i : Nat) (hi : i < s.es.length) => (h.below hb).when_ i hi)
 have HEV := Lib.hid (fun w' (hb : Below w.heap.size w w') (i : Nat) (hi : i < s.es.length) => (h.below hb).evt i hi)
 rw [← hln] at HCE
 have HR0 := Lib.hid (RE.new (Below.refl w.heap.size w))
 clear h hO hI hln
 go_enter Tryz.func24, Tryz.ntmps24
 go_upto_region 2 with fail
 obtain ⟨w1, hw1⟩ : ∃ w1, w1 = w.alloc (.cells #[.slice none 0 0, .int .i64 0] 129) := ⟨_, rfl⟩
 obtain ⟨P, hP⟩ : ∃ P, P = w.heap.size := ⟨_, rfl⟩
 rw [← hw1, ← hP] at HR0 ⊢
 clear hw1 hP
 obtain ⟨_, _, _, c3, c4, _, _⟩ := HCE.out w1 HR0.out.base
 go_wp2_with fail
 refine (HR0.out.num s.ck 8 (by omega) HCK.out (by simp)).mono ?_
 rintro en w2 ⟨rfl, he2⟩
 have HE2 := Lib.hid he2
 clear he2 c3 c4
 obtain ⟨_, _, _, c3, c4, _, _⟩ := HCE.out w2 HE2.out.base
 go_wp2_with fail
 refine (HE2.out.num (ln : Int) 2 (by omega) HLF.out (by simp [putB_length])).mono ?_
 rintro en w3 ⟨rfl, he3⟩
 have HE3 : Hid (RE w w3 P (saveK s 0)) := Lib.hid (by rw [saveK_zero]; unfold headB; rw [HL.out.1]; exact he3)
 clear he3 c3 c4
 go_wp2_with fail
 go_loopw [5] (fun i wr => ∃ k : Nat, k ≤ ln ∧ i = .int .i64 (k : Int) ∧ RE w wr P (saveK s k)) (fun i _ => ln - (intOf i).toNat)
 case atStart => exact ⟨0, by omega, rfl, HE3.out⟩
 case round =>
  obtain ⟨k, hk, rfl, hre⟩ := hrel
  have HRE := Lib.hid hre
  clear hre
  obtain ⟨_, _, _, _, c4, c5, c6⟩ := HCE.out wr HRE.out.base
  by_cases hlt : k < ln
  · have k0 : (0 : Int) ≤ (k : Int) := by omega
    have k1 : (k : Int) < (ln : Int) := by omega
    have hkl : k < s.es.length := by rw [HL.out.1]; exact hlt
    have HKL : Hid (k < ln) := Lib.hid hlt
    have HSK := Lib.hid (saveK_succ s k hkl)
    have HOD := Lib.hid (HO.out s.es[k] (List.getElem_mem hkl))
    have HSL := Lib.hid (saveK_len HO.out k (by omega))
    obtain ⟨gw, hgw, a0⟩ := HWO.out wr HRE.out.base k hkl
    obtain ⟨gn, hgn, _⟩ := HWN.out wr HRE.out.base k hkl
    obtain ⟨ge, hge, _⟩ := HEV.out wr HRE.out.base k hkl
    subst hgw hgn hge
    have HB0 : Hid (∀ w', Below w.heap.size w w' → w'.cell? ⟨gn, k, none⟩ = some (.int .i64 s.es[k].c)) := Lib.hid (fun w' hb => by
     obtain ⟨g, hg, h⟩ := HWN.out w' hb k hkl
     cases hg
     exact h)
    have HD0 : Hid (∀ w', Below w.heap.size w w' → ∀ j, j < 9 → w'.cell? ⟨ge, k * 9 + j, none⟩ = s.es[k].e.cells[j]?) := Lib.hid (fun w' hb => by
     obtain ⟨g, hg, h⟩ := HEV.out w' hb k hkl
     cases hg
     exact h)
    generalize s.es[k] = d at *
    clear hlt hk hkl
    go_wp2_with fail
    refine (HRE.out.num d.p 1 (by omega) (fits_p HOD.out.2.1 (by have := HOD.out.2.2.1; have := HN16.out; omega)) (by have := HSL.out; have := HKL.out; have := HL.out.2; omega)).mono ?_
    rintro en w4 ⟨rfl, he4⟩
    have HE4 := Lib.hid he4
    clear he4 c4 c5 c6 a0
    obtain ⟨_, _, _, _, c4, c5, c6⟩ := HCE.out w4 HE4.out.base
    have b0 := HB0.out w4 HE4.out.base
    go_wp2_with fail
    refine (HE4.out.num d.c 8 (by omega) (fits_c HOD.out.2.2.2.1 HOD.out.2.2.2.2) (by rw [List.length_append, putB_length]; have := HSL.out; have := HKL.out; have := HL.out.2; omega)).mono ?_
    rintro en w5 ⟨rfl, he5⟩
    have HE5 : Hid (RE w w5 P (saveK s k ++ hdD d)) := Lib.hid (by unfold hdD; rw [← List.append_assoc]; exact he5)
    clear he5 c4 c5 c6 b0
    obtain ⟨_, _, _, _, c4, c5, c6⟩ := HCE.out w5 HE5.out.base
    have hc := HD0.out w5 HE5.out.base
    obtain ⟨x, hx⟩ : ∃ x, x = d.e := ⟨_, rfl⟩
    rw [← hx] at hc HSK
    have HPE := Lib.hid (HE5.out.event x (by rw [hx]; exact HOD.out.1) (by rw [List.length_append]; unfold hdD; rw [List.length_append, putB_length, putB_length]; have := HSL.out; have := HKL.out; have := HL.out.2; omega))
    unfold EV.cells at HPE
    have e0 := hc 0 (by omega)
    have e1 := hc 1 (by omega)
    have e2 := hc 2 (by omega)
    have e3 := hc 3 (by omega)
    have e4 := hc 4 (by omega)
    have e5 := hc 5 (by omega)
    have e6 := hc 6 (by omega)
    have e7 := hc 7 (by omega)
    have e8 := hc 8 (by omega)
    simp only [EV.cells, lq, Nat.add_zero] at e0 e1 e2 e3 e4 e5 e6 e7 e8
    clear hc hx
    go_wp2_with fail
    refine HPE.out.mono ?_
    rintro en w6 ⟨rfl, he6⟩
    have HE6 : Hid (RE w w6 P (saveK s (k + 1))) := Lib.hid (by rw [HSK.out]; exact he6)
    have HML : Hid (ln - (k + 1) < ln - k) := Lib.hid (by have := HKL.out; omega)
    have hln := HL.out.2
    clear he6 c4 c5 c6 e0 e1 e2 e3 e4 e5 e6 e7 e8
    go_wp2
    go_roundw
    case rel => exact ⟨k + 1, HKL.out, by go_num, HE6.out⟩
    case measure => simpa [intOf] using HML.out
  · obtain rfl : k = ln := by omega
    have HSA : Hid (saveK s k = saveB s) := Lib.hid (by have := saveK_all s; rw [HL.out.1] at this; exact this)
    rw [HSA.out] at HRE
    have HDO := Lib.hid HRE.out.done
    clear hlt hk
    go_wp2_with fail
    refine HDO.out.mono ?_
    rintro en w7 ⟨⟨ao, cap, rfl, hi⟩, hb⟩
    have HI := Lib.hid hi
    have HB := Lib.hid hb
    clear hi hb
    go_wp2
    go_ret2
    exact ⟨ao, cap, rfl, HI.out, HB.out⟩
end
section
variable {S S' S2 Sb : Nat → Prop} {W w w' : World} {n m n2 m2 : Nat} {E E2 : Int} {s s2 : LS} {T T2 : Nat → Int} {A B tb q A2 B2 q2 : Nat} {v : Value} {b : Nat → Nat → Int} {l : List XR}
theorem EB.tab (h : EB S W w n m b l T B tb q) : TabOk w tb := by obtain ⟨_, _, _, _, h, _⟩ := h; exact h
theorem EB.tbS (h : EB S W w n m b l T B tb q) : S tb := by obtain ⟨_, _, _, _, _, _, _, h, _⟩ := h; exact (h tb).2 (Or.inr rfl)
theorem LD.tab (h : LD S W w n m E s T A B tb q) : TabOk w tb := by obtain ⟨_, _, h, _⟩ := h; exact h.eb.tab
theorem LD.tbS (h : LD S W w n m E s T A B tb q) : S tb := by obtain ⟨_, _, h1, _, h3⟩ := h; exact (h3 tb).2 (Or.inl h1.eb.tbS)
end
structure Tri (Sx Sy Sz : Nat → Prop) (W w : World) (n m : Nat) (E : Int) (sx sy sz : LS) (T : Nat → Int) (tb Ax Bx qx Ay By qy Az Bz qz : Nat) : Prop where
 x : LD Sx W w n m E sx T Ax Bx tb qx
 y : LD Sy W w n m E sy T Ay By tb qy
 z : LD Sz W w n m E sz T Az Bz tb qz
 xy : ∀ i, Sx i → Sy i → i = tb
 xz : ∀ i, Sx i → Sz i → i = tb
 yz : ∀ i, Sy i → Sz i → i = tb
section
variable {Sx Sy Sz S' : Nat → Prop} {W w w' : World} {n m : Nat} {E : Int} {sx sy sz s' : LS} {T : Nat → Int} {tb Ax Bx qx Ay By qy Az Bz qz : Nat}
theorem Tri.below (h : Tri Sx Sy Sz W w n m E sx sy sz T tb Ax Bx qx Ay By qy Az Bz qz) (hb : Below w.heap.size w w') : Tri Sx Sy Sz W w' n m E sx sy sz T tb Ax Bx qx Ay By qy Az Bz qz :=
 ⟨h.x.below hb, h.y.below hb, h.z.below hb, h.xy, h.xz, h.yz⟩
end
end Go.Proofs.YtkaciaehlibidaaGreat
