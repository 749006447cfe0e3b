/- Parts of the proof: Pur7a Ll1 Refw Ll2 Lv1 Ldv Lx2a. -/
import Derived.Test.YtkaciaehlibidaaGreatZ07
import Derived.Test.YtkaciaehlibidaaGreatZ09
import Derived.Test.YtkaciaehlibidaaGreatZ10
import Derived.Test.YtkaciaehlibidaaGreatZ12
import Derived.Test.YtkaciaehlibidaaGreatZ13
import Derived.Test.YtkaciaehlibidaaGreatZ14
import Derived.Test.YtkaciaehlibidaaGreatZ17
import Derived.Test.YtkaciaehlibidaaGreatZ20
import Derived.Deep.CutBlock
import Derived.Deep.DeepCutAuto
namespace Go.Proofs.YtkaciaehlibidaaGreat
open Go.RowKit
set_option linter.unusedVariables false
set_option linter.unusedSimpArgs false
set_option maxHeartbeats 1000000 in
theorem few9_any (ao : Option Addr) (bs : List ISl) (n cap : Nat) (w : World) (hn : bs.length = n) (h : IntsList w ao bs) (hcap : n ≤ cap) (hm : cap ≤ maxLen) :
 Calls Tryz.prog 27 #[.slice ao n cap] w fun e w' => e = .returned (.bool (fewB (bs.map (fun o => o.zs.length)) 100 1000)) ∧ w = w' := by
 have HB := Lib.hid h
 have HN := Lib.hid hn
 obtain ⟨ls, hls⟩ : ∃ ls, ls = (bs.map (fun o => o.zs.length)).map (fun x => min x (1000 + 1)) := ⟨_, rfl⟩
 have hll : ls.length = n := by rw [hls]; simp [hn]
 have hmax : ∀ k, (ls.take k).sum ≤ n * (1000 + 1) ∧ (ls.take k).sum ≤ k * (1000 + 1) := by
  intro k
  rw [hls, ← List.map_take]
  have := sum_min_bound ((bs.map (fun o => o.zs.length)).take k) 1000
  have e : ((bs.map (fun o => o.zs.length)).take k).length ≤ n := by simp [hn]; omega
  have e2 : ((bs.map (fun o => o.zs.length)).take k).length ≤ k := by simp; omega
  exact ⟨Nat.le_trans this (Nat.mul_le_mul_right _ e), Nat.le_trans this (Nat.mul_le_mul_right _ e2)⟩
 have hb : ∀ k, k ≤ 100 → (ls.take k).sum ≤ 1000001000 := by
  intro k hk
  have := (hmax k).2
  have h3 : k * (1000 + 1) ≤ 1000 * 1000001 := Nat.mul_le_mul (by omega) (by omega)
  omega
 have HLS := Lib.hid hls
 have HLL := Lib.hid hll
 have HBD := Lib.hid hb
 unfold maxLen at hm
 clear h hn hls hll hmax hb
 go_enter Tryz.func27, Tryz.ntmps27
 go_wp2_with fail
 go_loop [3, 4] (fun t i => ∃ k : Nat, k ≤ n ∧ k ≤ 100 ∧ i = .int .i64 k ∧ t = .int .i64 ((ls.take k).sum : Nat)) (fun _ i => n - (intOf i).toNat)
 case atStart => exact ⟨0, Nat.zero_le _, Nat.zero_le _, rfl, rfl⟩
 case round =>
  obtain ⟨k, hk, hk2, rfl, rfl⟩ := hrel
  have hbd := HBD.out k hk2
  by_cases hlt : k < n
  · by_cases hlt2 : k < 100
    · have hkl : k < ls.length := by rw [HLL.out]; exact hlt
      have hkb : k < bs.length := by rw [HN.out]; exact hlt
      obtain ⟨b, off, ha, hc⟩ := il_cell HB.out k hkb
      have HS := Lib.hid (sum_take_succ ls k hkl)
      have hmin : ls[k] = min bs[k].zs.length (1000 + 1) := by simp [HLS.out]
      have HMIN := Lib.hid hmin
      generalize ls[k] = m at *
      generalize bs[k].zs.length = z at *
      clear hmin hkl
      subst ha
      generalize (ls.take k).sum = s at *
      have i1 : (k : Int) < (n : Int) := by omega
      have i2 : (k : Int) < (100 : Int) := by omega
      go_wp2
      go_round
      case rel => exact ⟨k + 1, by omega, by omega, by go_num, by rw [HS.out, HMIN.out]; congr 1; split <;> omega⟩
      case measure => simp [intOf]; omega
    · obtain rfl : 100 = k := by omega
      have HF := Lib.hid (show fewB (bs.map (fun o => o.zs.length)) 100 1000 = false by simp [fewB, HN.out]; omega)
      have i1 : (100 : Int) < (n : Int) := by omega
      have i2 : ¬ (n : Int) ≤ (100 : Int) := by omega
      clear hlt2
      go_wp2
      go_ret
      exact ⟨ret_bool HF.out.symm, rfl⟩
  · obtain rfl : k = n := by omega
    have i2 : (k : Int) ≤ (100 : Int) := by omega
    have HT : Hid ((ls.take k).sum = (((bs.map (fun o => o.zs.length)).take 100).map (fun x => min x (1000 + 1))).sum) := Lib.hid (by
     rw [List.take_of_length_le (by rw [HLL.out]; exact Nat.le_refl _), HLS.out, List.take_of_length_le (l := bs.map _) (by simp [HN.out]; omega)])
    by_cases hs : (ls.take k).sum ≤ 1000
    · have HF := Lib.hid (show fewB (bs.map (fun o => o.zs.length)) 100 1000 = true by
       unfold fewB
       rw [← HT.out]
       simp [HN.out]; omega)
      generalize (ls.take k).sum = s at *
      have i3 : (s : Int) ≤ (1000 : Int) := by omega
      clear hlt
      go_wp2
      go_ret
      exact ⟨ret_bool HF.out.symm, rfl⟩
    · have HF := Lib.hid (show fewB (bs.map (fun o => o.zs.length)) 100 1000 = false by
       unfold fewB
       rw [← HT.out]
       simp [HN.out]; omega)
      generalize (ls.take k).sum = s at *
      have i3 : ¬ (s : Int) ≤ (1000 : Int) := by omega
      clear hlt
      go_wp2
      go_ret
      exact ⟨ret_bool HF.out.symm, rfl⟩
def LP (T : TypeId) (W w : World) (S : Nat → Prop) (q n m : Nat) (b : Nat → Nat → Int) : Prop := PAt T w q S n m b ∧ Below W.heap.size W w ∧ ∀ k, S k → W.heap.size ≤ k
section
variable {T : TypeId} {W w w' : World} {S : Nat → Prop} {q n m : Nat} {b b' : Nat → Nat → Int}
theorem LP.below (h : LP T W w S q n m b) (hb : Below w.heap.size w w') : LP T W w' S q n m b := ⟨h.1.below hb, h.2.1.trans (hb.mono h.2.1.size), h.2.2⟩
theorem LP.drew (h : LP T W w S q n m b) : LP T W w.drew S q n m b := h.below ((Keeps.refl (fun _ => False) w).drew.below (Nat.le_refl _) (fun _ f => f.elim))
theorem LP.post (h : LP T W w S q n m b) (hp : PPost T w q S n m b' w') : LP T W w' S q n m b' := ⟨hp.1, h.2.1.trans (hp.2.below h.2.1.size h.2.2), h.2.2⟩
theorem LP.new (h : PNew T w n m b q w') (hb : Below W.heap.size W w) : LP T W w' (fun k => W.heap.size ≤ k ∧ k < w'.heap.size) q n m b := ⟨(h.from_ hb).1, (h.from_ hb).2, fun k hk => hk.1⟩
end
section
variable {W w : World} {S : Nat → Prop} {q n m : Nat} {b : Nat → Nat → Int}
theorem LP.move (h : LP 133 W w S q n m b) (hg : Good n m b) (f t j x : Int) : Calls Tryz.prog 62 #[.pointer (some ⟨q, 0, none⟩), .int .i64 f, .int .i64 t, .int .i64 j, .int .i64 x] w fun e w' => e = .returned (.int .i64 (moveE n m b f t j x)) ∧ LP 133 W w' S q n m (moveN n m b f t j x) :=
 (pur_move q n m S b w h.1 hg f t j x).mono fun _ _ ⟨a, b⟩ => ⟨a, h.post b⟩
end
def F12 (w : World) (r : Nat) (ls : List LO) (e : Ending) (w' : World) : Prop := ∃ F : Bool, e = .returned (.bool F) ∧ Below w.heap.size w w' ∧ (F = true → r ≤ 100 ∧ ∀ o ∈ ls, fewRq o.rs = true)
set_option maxRecDepth 100000 in
set_option maxHeartbeats 2000000 in
theorem few12_any (ao : Option Addr) (bs : List ISl) (n cap : Nat) (E : Int) (w : World) (hn : bs.length = n) (h : IntsList w ao bs) (hcap : n ≤ cap) (hm : cap ≤ maxLen) (lo : Option Addr) (ls : List LO) (r lc : Nat) (hr : ls.length = r) (h2 : LosAt w lo ls) (hrc : r ≤ lc) (hrm : lc ≤ maxLen) :
 Calls Tryz.prog 9 #[.agg #[.slice ao n cap, .int .i64 E], .slice lo r lc] w (F12 w r ls) := by
 obtain ⟨w1, hw1⟩ : ∃ w1, w1 = w.alloc (.cells #[.slice ao n cap, .int .i64 E] 24) := ⟨_, rfl⟩
 obtain ⟨C, hC⟩ : ∃ C, C = w.heap.size := ⟨_, rfl⟩
 have hb1 : Below w.heap.size w w1 := by rw [hw1]; exact (Below.refl _ _).alloc (Nat.le_refl _) _
 have HB1 := Lib.hid hb1
 have HX1 : Hid (w1.heap[C]? = some (.cells #[.slice ao n cap, .int .i64 E] 24 (0, 0))) := Lib.hid (by rw [hw1, hC]; exact heap_alloc_new _ _)
 have HW1 := Lib.hid hw1
 have HC := Lib.hid hC
 have HF9 := Lib.hid (fun w' (hb : Below w.heap.size w w') => few9_any ao bs n cap w' hn (h.below hb) hcap hm)
 have HLS := Lib.hid h2
 have HR := Lib.hid hr
 have HRM : Hid (r ≤ maxLen) := Lib.hid (Nat.le_trans hrc hrm)
 generalize fewB (bs.map (fun o => o.zs.length)) 100 1000 = B9 at *
 clear hw1 hC hb1 h h2 hn hr hcap hm hrc hrm
 have hrl : (r : Int) ≤ 9223372036854775807 := by have := HRM.out; unfold maxLen at this; omega
 go_enter Tryz.func9, Tryz.ntmps9
 go_upto_region 1 with fail
 rw [← HW1.out, ← HC.out]
 go_wp2_with fail
 go_loopw [5, 6] (fun s i wr => ∃ k : Nat, k ≤ r ∧ k ≤ 100 ∧ i = .int .i64 (k : Int) ∧ ∃ t : Nat, s = .int .i64 (t : Int) ∧ t ≤ k * 100 ∧ Below w.heap.size w wr ∧ wr.heap[C]? = some (.cells #[.slice ao n cap, .int .i64 E] 24 (0, 0)) ∧ ∀ j (hj : j < ls.length), j < k → fewRq ls[j].rs = true) (fun _ i _ => r - (intOf i).toNat)
 case atStart => exact ⟨0, by omega, by omega, rfl, 0, rfl, by omega, HB1.out, HX1.out, fun j _ h => by omega⟩
 case round =>
  obtain ⟨k, hk, hk2, rfl, t, rfl, ht, hb, hx, hf⟩ := hrel
  have HB := Lib.hid hb
  have HX := Lib.hid hx
  have HFW := Lib.hid hf
  clear hb hx hf
  have k0 : (0 : Int) ≤ (k : Int) := by omega
  have t0 : (0 : Int) ≤ (t : Int) := by omega
  have t1 : (t : Int) ≤ 10000 := by omega
  by_cases hlt : k < r ∧ k < 100
  · have k1 : (k : Int) < (r : Int) := by omega
    have k2 : (k : Int) < 100 := by omega
    have hkl : k < ls.length := by rw [HR.out]; exact hlt.1
    have HKL : Hid (k < r ∧ k < 100) := Lib.hid hlt
    have HT := Lib.hid ht
    have HLB := Lib.hid (HLS.out.below HB.out)
    obtain ⟨b, off, rfl, c0, c1, c2, c3⟩ := HLB.out.at_ k hkl
    have HOK := Lib.hid (HLB.out.2 ls[k] (List.getElem_mem hkl))
    have HNX : Hid (fewRq ls[k].rs = true → ∀ j (hj : j < ls.length), j < k + 1 → fewRq ls[j].rs = true) := Lib.hid (fun h j hj hjk => by
     by_cases e : j < k
     · exact HFW.out j hj e
     · obtain rfl : j = k := by omega
       exact h)
    generalize ls[k] = o at *
    have HLEN : Hid (fewRq o.rs = true → o.n ≤ 100) := Lib.hid (fun h => by have := (fewRq_facts _ h).1; rw [HOK.out.2.1] at this; exact this)
    have HRR : Hid (r - (k + 1) < r - k) := Lib.hid (by omega)
    clear hlt hk hk2 hkl ht
    go_wp2_with fail
    refine (few11_any o.q o.ro o.rs o.n o.cap wr HOK.out.2.1 HOK.out.1 HOK.out.2.2.1 HOK.out.2.2.2).mono ?_
    rintro e w2 ⟨rfl, hb2⟩
    have HB2 := Lib.hid (below_step HB.out hb2)
    have HX2 : Hid (w2.heap[C]? = some (.cells #[.slice ao n cap, .int .i64 E] 24 (0, 0))) := Lib.hid ((hb2.block C (blk_lt HX.out)).trans HX.out)
    have hb2' := hb2
    have d3 : w2.cell? ⟨b, off + k * 4 + 3, none⟩ = some (.slice o.ro o.n o.cap) := by rw [hb2.cell (World.block_lt_of_cell? wr _ c3)]; exact c3
    clear hb2 hb2' c0 c1 c2 c3
    cases hfr : fewRq o.rs
    case false =>
     clear hfr
     go_wp2
     go_ret
     exact ⟨false, rfl, HB2.out, fun h => by cases h⟩
    have HN1 := Lib.hid (HNX.out hfr)
    have hn1 : (o.n : Int) ≤ 100 := by have := HLEN.out hfr; omega
    have hn0 : (0 : Int) ≤ (o.n : Int) := by omega
    have HON : Hid (o.n ≤ 100) := Lib.hid (HLEN.out hfr)
    clear hfr
    go_wp2
    go_roundw
    case rel => exact ⟨k + 1, HKL.out.1, HKL.out.2, by go_num, t + o.n, by go_num, by have := HT.out; have := HON.out; omega, HB2.out, HX2.out, HN1.out⟩
    case measure => simpa [intOf] using HRR.out
  · have q0 := blk_cell HX.out 0
    simp only [lq] at q0
    have HF := Lib.hid (HF9.out wr HB.out)
    have HFA : Hid (r ≤ 100 → ∀ o ∈ ls, fewRq o.rs = true) := Lib.hid (fun h o ho => by
     obtain ⟨j, hj, rfl⟩ := List.mem_iff_getElem.1 ho
     exact HFW.out j hj (by have := HR.out; omega))
    by_cases hkr : k < r
    · have k1 : (k : Int) < (r : Int) := by omega
      have k2 : ¬ (k : Int) < 100 := by omega
      have r1 : ¬ (r : Int) ≤ 100 := by omega
      clear hlt hk hk2 hkr ht
      go_wp2_with fail
      refine HF.out.mono ?_
      rintro e w2 ⟨rfl, rfl⟩
      cases B9 <;>
      · go_wp2
        go_ret
        exact ⟨false, rfl, HB.out, fun h => by cases h⟩
    · obtain rfl : k = r := by omega
      have k1 : ¬ (k : Int) < (k : Int) := by omega
      have HK2 := Lib.hid hk2
      have r1 : (k : Int) ≤ 100 := by omega
      clear hlt hk hk2 hkr ht
      go_wp2_with fail
      refine HF.out.mono ?_
      rintro e w2 ⟨rfl, rfl⟩
      cases B9
      case false =>
       go_wp2
       go_ret
       exact ⟨false, rfl, HB.out, fun h => by cases h⟩
      go_wp2
      go_ret
      exact ⟨_, rfl, HB.out, fun _ => ⟨HK2.out, HFA.out HK2.out⟩⟩
theorem ex12 (h : Nat) : confOK (ex9 h) 4 = true := by unfold confOK; rw [ex9_may]; decide
set_option maxRecDepth 100000 in
set_option maxHeartbeats 2000000 in
theorem first12_any (w : World) : Calls Tryz.prog 8 #[] w fun e w' => e = .returned (.bool true) ∧ Below w.heap.size w w' := by
 have HN := Lib.hid (fun (w1 : World) (hb : Below w.heap.size w w1) (ht : TabOk w1 w.heap.size) =>
  ledger_yes w w.heap.size (some ⟨w1.heap.size + 2, 0, none⟩) (ex9 w1.heap.size) 2 2 1 4 (world2 w1 5 0) (below_step hb (world2_below w1 5 0)) (ht.below (world2_below w1 5 0)) (Nat.le_refl _) rfl (world2_rows w1 5 0 (by decide) (by decide)) (ex12 _) rfl)
 unfold world2 at HN
 go_enter Tryz.func8, Tryz.ntmps8
 go_wp2_with fail
 refine (newTable_any w).mono ?_
 rintro e w1 ⟨rfl, ht, hb⟩
 have HN1 := Lib.hid (HN.out w1 hb ht)
 clear ht hb HN
 go_wp2_with fail
 refine HN1.out.mono ?_
 rintro e w2 ⟨S, A, B, q, rfl, hd, _, _⟩
 have HD := Lib.hid hd
 clear hd HN1
 have HAP := Lib.hid (ledger_apply HD.out 0 7 0 none [] 0 0 rfl (Nat.le_refl _) (Nat.zero_le _) (fun _ _ => Or.inl rfl) (fun r h => by cases h))
 have hs : applyF 2 1 4 ⟨balOf (ex9 w1.heap.size), [], 0, []⟩ 0 7 [] = ⟨balOf (ex9 w1.heap.size), [], 7, []⟩ := by
  unfold applyF runF tickF
  rw [if_pos (by decide)]
  rfl
 have hy : appR 2 1 4 ⟨balOf (ex9 w1.heap.size), [], 0, []⟩ 0 7 [] = [] := rfl
 rw [hs, hy] at HAP
 clear hs hy
 go_wp2_with fail
 refine HAP.out.mono ?_
 rintro e w3 ⟨ra, rc, ea, ec, rfl, _, _, _, _, S3, hd3, _⟩
 have HD3 := Lib.hid hd3
 have hdr : dropF (LS.evs ⟨balOf (ex9 w1.heap.size), [], 7, []⟩) 0 = [] := rfl
 rw [hdr]
 clear hd3 hdr HAP HD
 go_upto_region 5 with fail
 obtain ⟨w4, hw4⟩ : ∃ w4, w4 = w3.alloc (.cells #[.int .i64 7, .int .i64 0, .slice ra 0 rc, .slice ea 0 ec] 37) := ⟨_, rfl⟩
 have hb4 : Below w3.heap.size w3 w4 := by rw [hw4]; exact (Below.refl _ _).alloc (Nat.le_refl _) _
 have HD4 := Lib.hid (HD3.out.below hb4)
 have hx4 : w4.heap[w3.heap.size]? = some (.cells #[.int .i64 7, .int .i64 0, .slice ra 0 rc, .slice ea 0 ec] 37 (0, 0)) := by rw [hw4]; exact heap_alloc_new _ _
 have x0 := blk_cell hx4 0
 have x1 := blk_cell hx4 1
 have x2 := blk_cell hx4 2
 have x3 := blk_cell hx4 3
 simp only [lq] at x0 x1 x2 x3
 rw [← hw4]
 clear hx4 hb4 hw4 HD3
 obtain ⟨Sb, v, hd, _, _⟩ := HD4.out.dat
 have HCK := Lib.hid (ledger_clock hd)
 clear hd
 go_wp2_with fail
 refine HCK.out.mono ?_
 rintro e w5 ⟨rfl, rfl⟩
 go_wp2
 go_ret
 exact ⟨rfl, HD4.out.bel⟩
set_option maxRecDepth 100000 in
set_option maxHeartbeats 2000000 in
theorem rsameEvents (ao bo : Option Addr) (xs ys : List EV) (n m c d : Nat) (w : World) (hn : xs.length = n) (hm : ys.length = m) (hx : EvsAt w ao xs) (hy : EvsAt w bo ys) (hnm : n ≤ 1000000 ∧ m ≤ 1000000) :
 Calls Tryz.prog 16 #[.slice ao n c, .slice bo m d] w fun e w' => e = .returned (.bool (allB eqEV xs ys)) ∧ Below w.heap.size w w' := by
 have HX := Lib.hid hx
 have HY := Lib.hid hy
 have HN := Lib.hid hn
 have HM := Lib.hid hm
 obtain ⟨hn6, hm6⟩ := hnm
 by_cases hl : n = m
 · subst hl
   have HA : Hid (allB eqEV xs ys = allF eqEV xs ys) := Lib.hid (by simp [allB, hn, hm])
   clear hx hy hn hm
   go_enter Tryz.func16, Tryz.ntmps16
   go_wp2_with fail
   go_loopw [5] (fun i wr => ∃ k : Nat, k ≤ n ∧ i = .int .i64 k ∧ Below w.heap.size w wr ∧ allF eqEV (xs.take k) (ys.take k) = true) (fun i _ => n + 1 - (intOf i + 1).toNat)
   case atStart => exact ⟨0, Nat.zero_le _, rfl, Below.refl _ _, rfl⟩
   case round =>
    obtain ⟨k, hk, rfl, hbel, hall⟩ := hrel
    have HBE := Lib.hid hbel
    have HALL := Lib.hid hall
    clear hall
    by_cases hlt : k < n
    · have hkx : k < xs.length := by rw [HN.out]; exact hlt
      have hky : k < ys.length := by rw [HM.out]; exact hlt
      obtain ⟨xb, xoff, rfl, hat⟩ := ev_cells (HX.out.below hbel) k hkx
      obtain ⟨yb, yoff, rfl, hbt⟩ := ev_cells (HY.out.below hbel) k hky
      obtain ⟨c0, c1, c2, c3, c4, c5, c6, c7, c8⟩ := hat.all
      obtain ⟨d0, d1, d2, d3, d4, d5, d6, d7, d8⟩ := hbt.all
      have HSN := Lib.hid (allF_snoc eqEV xs ys k hkx hky)
      have HAT := Lib.hid (allF_at eqEV xs ys k hkx hky)
      generalize xs[k] = r at *
      generalize ys[k] = q at *
      have hne := fun w1 => neq_ev r q w1
      unfold EV.cells at hne
      have HBD := Lib.hid (fun j => HBE.out.trans (Keeps.below ((Keeps.refl (fun _ => False) wr).drewN j) (B := w.heap.size) HBE.out.size (fun _ f => f.elim)))
      clear hat hbt hbel
      have j0 : (0 : Int) ≤ (k : Int) := by omega
      have j1 : (k : Int) < (n : Int) := by omega
      cases hq : eqEV r q
      · have HQ := Lib.hid hq
        rw [hq] at hne
        clear hq
        go_wp2_with fail
        go_quiet (fail)
        go_wp2
        go_ret
        exact ⟨ret_bool (by rw [HA.out, HAT.out HQ.out]), HBD.out _⟩
      · have HQ := Lib.hid hq
        rw [hq] at hne
        clear hq
        go_wp2_with fail
        go_quiet (fail)
        go_wp2
        go_roundw
        case rel => exact ⟨k + 1, by omega, by go_num, HBD.out _, by rw [HSN.out, HALL.out, HQ.out]; rfl⟩
        case measure => simp [intOf]; omega
    · obtain rfl : k = n := by omega
      have HB := Lib.hid (show allB eqEV xs ys = true by
       rw [HA.out]
       have h := HALL.out
       rwa [List.take_of_length_le (by rw [HN.out]; exact Nat.le_refl _), List.take_of_length_le (by rw [HM.out]; exact Nat.le_refl _)] at h)
      clear hlt hbel
      go_wp2
      go_ret
      exact ⟨ret_bool HB.out.symm, HBE.out⟩
 · have HA : Hid (allB eqEV xs ys = false) := Lib.hid (by simp [allB, hn, hm, hl])
   have h1 : ((n : Int) != (m : Int)) = true := by simp; omega
   clear hx hy hn hm hl
   go_enter Tryz.func16, Tryz.ntmps16
   go_wp2
   go_ret
   exact ⟨ret_bool HA.out.symm, Below.refl _ _⟩
set_option maxRecDepth 100000 in
set_option maxHeartbeats 2000000 in
theorem rsameAnswer (c1 s1 : Int) (ra : Option Addr) (xs : List (Int × Int)) (n rc : Nat) (ea : Option Addr) (es : List EV) (m1 ec : Nat) (c2 s2 : Int) (rb : Option Addr) (ys : List (Int × Int)) (m rc' : Nat) (eb : Option Addr) (fs : List EV) (m' ec' : Nat) (w : World) (hn : xs.length = n) (hm1 : es.length = m1) (hm : ys.length = m) (hm' : fs.length = m')
 (hx : RepsAt w ra xs) (hy : RepsAt w rb ys) (he : EvsAt w ea es) (hf : EvsAt w eb fs) (hnm : n ≤ 1000000 ∧ m ≤ 1000000) (hmm : m1 ≤ 1000000 ∧ m' ≤ 1000000) :
 Calls Tryz.prog 15 #[.agg #[.int .i64 c1, .int .i64 s1, .slice ra n rc, .slice ea m1 ec], .agg #[.int .i64 c2, .int .i64 s2, .slice rb m rc', .slice eb m' ec']] w fun e w' => e = .returned (.bool (sameA c1 s1 xs es c2 s2 ys fs)) ∧ Below w.heap.size w w' := by
 obtain ⟨w2, hw2⟩ : ∃ w2, w2 = (w.alloc (.cells #[.int .i64 c1, .int .i64 s1, .slice ra n rc, .slice ea m1 ec] 37)).alloc (.cells #[.int .i64 c2, .int .i64 s2, .slice rb m rc', .slice eb m' ec'] 37) := ⟨_, rfl⟩
 have HB2 : Hid (Below w.heap.size w w2) := Lib.hid (by subst hw2; exact ((Below.refl _ _).alloc (Nat.le_refl _) _).alloc (by simp) _)
 have HX := Lib.hid (hx.below HB2.out)
 have HY := Lib.hid (hy.below HB2.out)
 have HEV := Lib.hid (fun w' (h : Below w2.heap.size w2 w') => rsameEvents ea eb es fs m1 m' ec ec' w' hm1 hm' ((he.below HB2.out).below h) ((hf.below HB2.out).below h) hmm)
 have HBX : Hid (Boxes w w2 [(#[.int .i64 c1, .int .i64 s1, .slice ra n rc, .slice ea m1 ec], 37), (#[.int .i64 c2, .int .i64 s2, .slice rb m rc', .slice eb m' ec'], 37)]) := Lib.hid (by
  subst hw2
  exact ((Boxes.nil w).push (by simp) _ _).push (by simp) _ _)
 have HCC : Hid (∀ w', Below w2.heap.size w2 w' → (w'.cell? ⟨w.heap.size, 0, none⟩ = some (.int .i64 c1) ∧ w'.cell? ⟨w.heap.size, 1, none⟩ = some (.int .i64 s1) ∧ w'.cell? ⟨w.heap.size, 2, none⟩ = some (.slice ra n rc) ∧ w'.cell? ⟨w.heap.size, 3, none⟩ = some (.slice ea m1 ec)) ∧ w'.cell? ⟨w.heap.size + 1, 0, none⟩ = some (.int .i64 c2) ∧ w'.cell? ⟨w.heap.size + 1, 1, none⟩ = some (.int .i64 s2) ∧ w'.cell? ⟨w.heap.size + 1, 2, none⟩ = some (.slice rb m rc') ∧ w'.cell? ⟨w.heap.size + 1, 3, none⟩ = some (.slice eb m' ec')) := Lib.hid (fun w' h => by
  have h2 := HBX.out.below h
  exact ⟨⟨h2.cell 0 0 rfl, h2.cell 0 1 rfl, h2.cell 0 2 rfl, h2.cell 0 3 rfl⟩, h2.cell 1 0 rfl, h2.cell 1 1 rfl, h2.cell 1 2 rfl, h2.cell 1 3 rfl⟩)
 have HN := Lib.hid hn
 have HM := Lib.hid hm
 have HW2 := Lib.hid hw2
 obtain ⟨hn6, hm6⟩ := hnm
 clear hx hy hn hm hw2 he hf hm1 hm' hmm
 obtain ⟨⟨a0, a1, a2, a3⟩, b0, b1, b2, b3⟩ := HCC.out w2 (Below.refl _ _)
 cases hc : (c1 == c2)
 · have HA : Hid (sameA c1 s1 xs es c2 s2 ys fs = false) := Lib.hid (by simp [sameA, hc])
   have h1 : (c1 != c2) = true := by simp [bne, hc]
   clear hc
   go_enter Tryz.func15, Tryz.ntmps15
   go_upto_region 1 with fail
   rw [← HW2.out]
   go_wp2
   go_ret
   exact ⟨ret_bool HA.out.symm, HB2.out⟩
 have h0 : (c1 != c2) = false := by simp [bne, hc]
 cases hs : (s1 == s2)
 · have HA : Hid (sameA c1 s1 xs es c2 s2 ys fs = false) := Lib.hid (by simp [sameA, hs])
   have h1 : (s1 != s2) = true := by simp [bne, hs]
   clear hc hs
   go_enter Tryz.func15, Tryz.ntmps15
   go_upto_region 1 with fail
   rw [← HW2.out]
   go_wp2
   go_ret
   exact ⟨ret_bool HA.out.symm, HB2.out⟩
 have h1 : (s1 != s2) = false := by simp [bne, hs]
 by_cases hl : n = m
 · subst hl
   have HA : Hid (sameA c1 s1 xs es c2 s2 ys fs = (allF eqRP xs ys && allB eqEV es fs)) := Lib.hid (by simp [sameA, hs, hc, allB, HN.out, HM.out])
   clear hs hc
   go_enter Tryz.func15, Tryz.ntmps15
   go_upto_region 1 with fail
   rw [← HW2.out]
   go_wp2_with fail
   clear a0 a1 a2 a3 b0 b1 b2 b3
   go_loopw [5] (fun i wr => ∃ k : Nat, k ≤ n ∧ i = .int .i64 k ∧ Below w2.heap.size w2 wr ∧ allF eqRP (xs.take k) (ys.take k) = true) (fun i _ => n + 1 - (intOf i + 1).toNat)
   case atStart => exact ⟨0, Nat.zero_le _, rfl, Below.refl _ _, rfl⟩
   case round =>
    obtain ⟨k, hk, rfl, hbel, hall⟩ := hrel
    have HBE := Lib.hid hbel
    have HALL := Lib.hid hall
    clear hall
    obtain ⟨⟨a0, a1, a2, a3⟩, b0, b1, b2, b3⟩ := HCC.out wr hbel
    by_cases hlt : k < n
    · have hkx : k < xs.length := by rw [HN.out]; exact hlt
      have hky : k < ys.length := by rw [HM.out]; exact hlt
      obtain ⟨xb, xoff, rfl, hat⟩ := rep_cells2 (HX.out.below hbel) k hkx
      obtain ⟨yb, yoff, rfl, hbt⟩ := rep_cells2 (HY.out.below hbel) k hky
      obtain ⟨c0, c1⟩ := hat.all
      obtain ⟨d0, d1⟩ := hbt.all
      have HSN := Lib.hid (allF_snoc eqRP xs ys k hkx hky)
      have HAT := Lib.hid (allF_at eqRP xs ys k hkx hky)
      generalize xs[k] = r at *
      generalize ys[k] = q at *
      have hne := fun w1 => neq_rep r q w1
      unfold RP.cells at hne
      have HBD := Lib.hid (fun j => HBE.out.trans (Keeps.below ((Keeps.refl (fun _ => False) wr).drewN j) (B := w2.heap.size) HBE.out.size (fun _ f => f.elim)))
      clear hat hbt hbel
      have j0 : (0 : Int) ≤ (k : Int) := by omega
      have j1 : (k : Int) < (n : Int) := by omega
      cases hq : eqRP r q
      · have HQ := Lib.hid hq
        rw [hq] at hne
        clear hq
        go_wp2_with fail
        go_quiet (fail)
        go_wp2
        go_ret
        exact ⟨ret_bool (by rw [HA.out, HAT.out HQ.out]; rfl), HB2.out.trans ((HBD.out _).mono HB2.out.size)⟩
      · have HQ := Lib.hid hq
        rw [hq] at hne
        clear hq
        go_wp2_with fail
        go_quiet (fail)
        go_wp2
        go_roundw
        case rel => exact ⟨k + 1, by omega, by go_num, HBD.out _, by rw [HSN.out, HALL.out, HQ.out]; rfl⟩
        case measure => simp [intOf]; omega
    · obtain rfl : k = n := by omega
      have HB := Lib.hid (show allF eqRP xs ys = true by
       have h := HALL.out
       rwa [List.take_of_length_le (by rw [HN.out]; exact Nat.le_refl _), List.take_of_length_le (by rw [HM.out]; exact Nat.le_refl _)] at h)
      clear hlt hbel
      go_wp2_with fail
      refine (HEV.out wr HBE.out).mono ?_
      rintro e w5 ⟨rfl, hb5⟩
      have HBF := Lib.hid (HB2.out.trans ((HBE.out.trans (hb5.mono HBE.out.size)).mono HB2.out.size))
      clear hb5
      go_wp2
      go_ret
      exact ⟨ret_bool (by rw [HA.out, HB.out, Bool.true_and]), HBF.out⟩
 · have HA : Hid (sameA c1 s1 xs es c2 s2 ys fs = false) := Lib.hid (by simp [sameA, allB, HN.out, HM.out, hl])
   have h2 : ((n : Int) != (m : Int)) = true := by simp; omega
   clear hl hs hc
   go_enter Tryz.func15, Tryz.ntmps15
   go_upto_region 1 with fail
   rw [← HW2.out]
   go_wp2
   go_ret
   exact ⟨ret_bool HA.out.symm, HB2.out⟩
theorem allB_same (es : List EV) : allB eqEV es es = true := (allB_iff eqEV eqEV_iff es es).2 rfl
section
variable {S S' : Nat → Prop} {W w w' : World} {n m : Nat} {E : Int} {s : LS} {T : Nat → Int} {A B tb q : Nat}
theorem rqs_stay {ro : Option Addr} {rs : List RQ} (h : RqsAt W ro rs) (hd : LD S W w n m E s T A B tb q) : ∀ w', Keeps S w w' → RqsAt w' ro rs := by
 intro w' hk
 rcases h with h | ⟨b, off, rfl, h2⟩
 · exact Or.inl h
 · refine Or.inr ⟨b, off, rfl, fun i hi j u hu => ?_⟩
   have c := h2 i hi j u hu
   have hb := World.block_lt_of_cell? W _ c
   have c1 : w.cell? ⟨b, off + i * 8 + j, none⟩ = some u := by rw [hd.bel.cell hb]; exact c
   exact (World.cell?_of_block (hk.block b (World.block_lt_of_cell? w _ c1) (fun hs => by have := hd.new b hs; have hb' : b < W.heap.size := hb; omega))).trans c1
theorem rq_le_sum : ∀ (rs : List RQ) (r : RQ), r ∈ rs → r.h.size + r.s.size ≤ rqSum rs
 | [], r, h => by simp at h
 | x :: rs, r, h => by
   unfold rqSum
   rw [List.map_cons, List.sum_cons]
   rcases List.mem_cons.1 h with e | e
   · subst e; omega
   · have := rq_le_sum rs r e
     unfold rqSum at this
     omega
theorem rq_sizes {rs : List RQ} (h : fewRq rs = true) : ∀ r ∈ rs, r.h.size + r.s.size ≤ 1000000000 := fun r hr => by
 have h1 := rq_le_sum rs r hr
 have h2 := (fewRq_facts _ h).2
 omega
theorem evs_len (s : LS) : s.evs.length = s.es.length := by unfold LS.evs; rw [List.length_map]
theorem drop_len (s : LS) (k : Int) : (dropF s.evs k).length ≤ s.es.length := by
 unfold dropF
 split
 · rw [List.length_drop, evs_len]; omega
 · simp
end
set_option maxRecDepth 100000 in
set_option maxHeartbeats 2000000 in
theorem encodeEvent (e : EV) (w : World) (hs : e.h.size + e.s.size ≤ 1000000000) :
 Calls Tryz.prog 38 #[.agg e.cells] w (EncBPost w (evF e)) := by
 have HS := Lib.hid hs
 obtain ⟨w2, hw2⟩ : ∃ w2, w2 = (w.alloc (.cells e.cells 55)).alloc (.cells #[.slice none 0 0, .bool false] 147) := ⟨_, rfl⟩
 have hx2 : EvB w2 w.heap.size e := by
  rw [hw2]
  exact (Below.heap_alloc _ _ _ (by simp)).trans (heap_alloc_new w _)
 have HO2 : Hid (OutAt w w2 (w.heap.size + 1) (.slice none 0 0) ([], false)) := Lib.hid (by
  rw [hw2]
  have := buf_new (w.alloc (.cells e.cells 55)) 147 (.bool false)
  refine ⟨by simpa using this, ((Below.refl _ _).alloc (Nat.le_refl _) _).alloc (by simp) _, by omega, (fun g hg => by cases hg), by simp; omega⟩)
 have HOd := Lib.hid (HO2.out.below (below_drew w2))
 have HX2 := Lib.hid hx2
 have HN := Lib.hid (hasN_in e.k true)
 have HW2 := Lib.hid hw2
 obtain ⟨x0, x1, x2, x3, x4, x5, x6, x7, x8⟩ := hx2.all
 unfold EV.cells at HW2
 unfold EV.cells
 clear hs hw2 hx2
 go_enter Tryz.func38, Tryz.ntmps38
 go_upto_region 2 with fail
 rw [← HW2.out]
 refine wp_region_held_drew (S := fun w' => w'.cell? ⟨w.heap.size, 0, none⟩ = some (.int .i64 e.k) ∧ w'.cell? ⟨w.heap.size, 1, none⟩ = some (.int .i64 e.f) ∧ w'.cell? ⟨w.heap.size, 2, none⟩ = some (.int .i64 e.t) ∧ w'.cell? ⟨w.heap.size, 3, none⟩ = some (.int .i64 e.a) ∧ w'.cell? ⟨w.heap.size, 4, none⟩ = some (.int .i64 e.n) ∧ w'.cell? ⟨w.heap.size, 5, none⟩ = some (.int .i64 e.i) ∧ w'.cell? ⟨w.heap.size, 6, none⟩ = some (.int .i64 e.d) ∧ w'.cell? ⟨w.heap.size, 7, none⟩ = some (.string e.h) ∧ w'.cell? ⟨w.heap.size, 8, none⟩ = some (.string e.s)) (by kernel_rfl) ?_ (fun hHeld => ?_)
 · exact ⟨x0, x1, x2, x3, x4, x5, x6, x7, x8⟩
 refine tk 0 5 ?_
 simp only [lz]
 refine tk 1 6 ?_
 simp only [lz]
 refine tk 2 7 ?_
 simp only [lz]
 refine wpAnyH_ready (rs := [3]) (by kernel_rfl) (by simp) ?_
 refine AllReadyH.cons rfl (fun K hK => ?_) AllReadyH.nil
 go_simp
 refine (has_any e.k true _).mono ?_
 rintro en w3 ⟨rfl, rfl⟩
 dsimp only
 go_wp2_with fail
 refine hK.out _ _ ?_ (fun hHeld => ?_)
 · exact ⟨x0, x1, x2, x3, x4, x5, x6, x7, x8⟩
 clear hK K
 try simp only [Act.put, lg]
 try simp only [lz]
 refine wpAnyH_ready (rs := [4]) (by kernel_rfl) (by simp) ?_
 refine AllReadyH.cons rfl (fun K hK => ?_) AllReadyH.nil
 go_simp
 refine (out_event (w.heap.size + 1) (.slice none 0 0) [] false e (hasN e.k true) w2.drew HOd.out.1 HN.out.1 (by have := HN.out.2; have := HS.out; simp only [List.length_nil]; omega)).mono ?_
 rintro en w4 ⟨rfl, hp⟩
 obtain ⟨v4, ho4, hk4⟩ := HOd.out.post (st' := evOut e (hasN e.k true) ([], false)) hp
 have HO4 := Lib.hid ho4
 have HX4 : Hid (EvB w4 w.heap.size e) := Lib.hid (HOd.out.head hk4 HX2.out)
 clear hp ho4 hk4
 dsimp only
 go_wp2_with fail
 refine hK.out _ _ ?_ (fun hHeld => ?_)
 · exact HX4.out.all
 clear hK K
 try simp only [Act.put, lg]
 try simp only [lz]
 refine wpAnyH_done (by kernel_rfl) ?_ _
 clear hHeld x0 x1 x2 x3 x4 x5 x6 x7 x8
 have HEF : Hid (evF e = outEnd (evOut e (hasN e.k true) ([], false))) := Lib.hid rfl
 generalize evOut e (hasN e.k true) ([], false) = st at *
 go_wp2_with fail
 refine (out_done _ v4 st.1 st.2 _ HO4.out.1).mono ?_
 rintro en w5 ⟨⟨ao5, cap5, rfl, hv5⟩, rfl⟩
 have HV := Lib.hid hv5
 clear hv5
 go_wp2
 go_ret2
 rw [HEF.out]
 exact outEnd_post HO4.out ao5 cap5 HV.out
theorem RowAt.below {w0 w w' : World} {v : Value} {zs : List Int} (h : RowAt w0 v zs w) (hb : Below w.heap.size w w') : RowAt w0 v zs w' :=
 ⟨ownsRow_same h.1 (fun g hg => hb.block g (h.1.lt g hg).2), below_step h.2.1 hb, h.2.2⟩
def EN (w0 w : World) (p : Nat) (bs : List Int) : Prop := ∃ v, EncAt 144 w p v bs 0 ∧ Below w0.heap.size w0 w ∧ w0.heap.size ≤ p ∧ ∀ g, v.ownBlock = some g → w0.heap.size ≤ g
theorem en_new {w0 w : World} (hb : Below w0.heap.size w0 w) : EN w0 (w.alloc (.cells #[.slice none 0 0, .int .i64 0] 144)) w.heap.size [] :=
 ⟨.slice none 0 0, ⟨heap_alloc_new w _, World.ownsRow_nil _ _ _ _, fun h => by cases h⟩, hb.alloc hb.size _, hb.size, fun g hg => by cases hg⟩
theorem EN.bel {w0 w : World} {p : Nat} {bs : List Int} (h : EN w0 w p bs) : Below w0.heap.size w0 w := by obtain ⟨_, _, h, _⟩ := h; exact h
theorem EN.num {w0 w : World} {p : Nat} {bs : List Int} (h : EN w0 w p bs) (x z : Int) (hf : fitsB x z = true) (hl : bs.length + 8 ≤ 140737488355328) :
 Calls Tryz.prog 36 #[.pointer (some ⟨p, 0, none⟩), .int .i64 x, .int .i64 z] w fun en w' => en = .returned (.tuple #[]) ∧ EN w0 w' p (bs ++ putB x z.toNat) := by
 obtain ⟨v, h1, h2, h3, h4⟩ := h
 refine (enc_num p v bs 0 x z w h1 hl).mono ?_
 rintro en w' ⟨rfl, hp⟩
 rw [encNum_ok bs x z hf] at hp
 obtain ⟨v', k1, k2, k3⟩ := hp
 refine ⟨rfl, v', k1, h2.trans (k2.below h2.size (fun k hk => ?_)), h3, fun g hg => ?_⟩
 · rcases hk with rfl | hk
   · exact h3
   · exact h4 k hk
 · rcases k3 g hg with e | e
   · exact h4 g e
   · exact Nat.le_trans h2.size e
theorem EN.done {w0 w : World} {p : Nat} {bs : List Int} (h : EN w0 w p bs) (hl : bs.length ≤ 140737488355328) :
 Calls Tryz.prog 37 #[.pointer (some ⟨p, 0, none⟩)] w fun en w' => ∃ ao cap, en = .returned (.tuple #[.slice ao bs.length cap, .int .i64 0]) ∧ RowAt w0 (.slice ao bs.length cap) bs w' := by
 obtain ⟨v, h1, h2, h3, h4⟩ := h
 refine (enc_done p v bs 0 w h1 hl).mono ?_
 rintro en w' ⟨ao, cap, rfl, hr⟩
 exact ⟨ao, cap, rfl, hr.1, below_step h2 hr.2.1, fun g hg => Nat.le_trans h2.size (hr.2.2 g hg)⟩
theorem inNum_le (k : Nat) (st : InS) : (inNum k st).2.1.length ≤ st.1.length := by
 unfold inNum
 split
 · simp
 · split <;> simp
theorem inBytes_le (k : Nat) (st : InS) : (inBytes k st).2.1.length ≤ st.1.length := by
 unfold inBytes
 split <;> simp
theorem stepIn_le (x : EV × InS) (c : Int) : (stepIn x c).2.1.length ≤ x.2.1.length := by
 unfold stepIn
 split
 · exact inNum_le _ _
 · exact inBytes_le _ _
theorem foldIn_le (nm : List Int) (x : EV × InS) : (nm.foldl stepIn x).2.1.length ≤ x.2.1.length := by
 induction nm generalizing x with
 | nil => exact Nat.le_refl _
 | cons c nm ih => exact Nat.le_trans (ih _) (stepIn_le x c)
theorem evIn_le (ev : Bool) (st : InS) : (evIn ev st).2.1.length ≤ st.1.length := Nat.le_trans (foldIn_le _ _) (inNum_le 1 st)
def fillV (w : World) (b : Nat) (x : EV) : World := ((((((((w.setCell ⟨b, 0, none⟩ (.int .i64 x.k)).setCell ⟨b, 1, none⟩ (.int .i64 x.f)).setCell ⟨b, 2, none⟩ (.int .i64 x.t)).setCell ⟨b, 3, none⟩ (.int .i64 x.a)).setCell ⟨b, 4, none⟩ (.int .i64 x.n)).setCell ⟨b, 5, none⟩ (.int .i64 x.i)).setCell ⟨b, 6, none⟩ (.int .i64 x.d)).setCell ⟨b, 7, none⟩ (.string x.h)).setCell ⟨b, 8, none⟩ (.string x.s)
theorem fillV_heap {w : World} {b : Nat} {y : EV} {T : TypeId} (h : w.heap[b]? = some (.cells y.cells T (0, 0))) (x : EV) : (fillV w b x).heap[b]? = some (.cells x.cells T (0, 0)) := by
 unfold fillV EV.cells
 unfold EV.cells at h
 simpa using blk_set (blk_set (blk_set (blk_set (blk_set (blk_set (blk_set (blk_set (blk_set h 0 (.int .i64 x.k)) 1 (.int .i64 x.f)) 2 (.int .i64 x.t)) 3 (.int .i64 x.a)) 4 (.int .i64 x.n)) 5 (.int .i64 x.i)) 6 (.int .i64 x.d)) 7 (.string x.h)) 8 (.string x.s)
theorem fillV_keeps (w : World) (b : Nat) (x : EV) : Keeps (fun i => i = b) w (fillV w b x) :=
 (((((((((Keeps.refl (fun i => i = b) w).setCell (p := ⟨b, 0, none⟩) (Or.inl rfl) _).setCell (p := ⟨b, 1, none⟩) (Or.inl rfl) _).setCell (p := ⟨b, 2, none⟩) (Or.inl rfl) _).setCell (p := ⟨b, 3, none⟩) (Or.inl rfl) _).setCell (p := ⟨b, 4, none⟩) (Or.inl rfl) _).setCell (p := ⟨b, 5, none⟩) (Or.inl rfl) _).setCell (p := ⟨b, 6, none⟩) (Or.inl rfl) _).setCell (p := ⟨b, 7, none⟩) (Or.inl rfl) _).setCell (p := ⟨b, 8, none⟩) (Or.inl rfl) _
set_option maxRecDepth 100000 in
set_option maxHeartbeats 4000000 in
theorem decodeEvent (ao : Option Addr) (zs : List Int) (n cap : Nat) (w : World) (hn : zs.length = n) (h : IntsAt .u8 w ao zs) (hB : InB zs) (hc : n ≤ cap) (hm : cap ≤ maxLen) (hl : n ≤ 1000000) :
 Calls Tryz.prog 41 #[.slice ao n cap] w fun e w' => e = .returned (.tuple #[.agg (decE zs).1.cells, .int .i64 ((decE zs).2.1 : Nat), .int .i64 (decE zs).2.2]) ∧ Below w.heap.size w w' := by
 obtain ⟨w2, hw2⟩ : ∃ w2, w2 = (w.alloc (.cells ev0.cells 55)).alloc (.cells #[.slice ao n cap, .bool false] 153) := ⟨_, rfl⟩
 obtain ⟨g, hg2, hgl⟩ := in_start (o := .cells ev0.cells 55) 153 hn h hB hc hm (by omega)
 have HB2 : Hid (Below w.heap.size w w2) := Lib.hid (by subst hw2; exact ((Below.refl _ _).alloc (Nat.le_refl _) _).alloc (by simp) _)
 have HS2 : Hid (w2.heap.size = w.heap.size + 2) := Lib.hid (by subst hw2; simp)
 have HR2 : Hid (EvB w2 w.heap.size ev0) := Lib.hid (by subst hw2; exact (Below.heap_alloc _ _ _ (by simp)).trans (heap_alloc_new w _))
 rw [← hw2] at hg2
 have HG2 := Lib.hid hg2
 have HW2 := Lib.hid hw2
 have HI := Lib.hid h
 have HN := Lib.hid hn
 have HIB := Lib.hid hB
 have HC := Lib.hid (And.intro hc hm)
 have HNL := Lib.hid hl
 clear hg2 hw2 h hn hB hc hm hl
 unfold ev0 EV.cells at HW2
 go_enter Tryz.func41, Tryz.ntmps41
 go_wp2_with fail
 rw [← HW2.out]
 refine (in_event (w.heap.size + 1) g true (zs, false) w2 HG2.out).mono ?_
 rintro en w3 ⟨rfl, hi3, hk3⟩
 have HLE : Hid ((evIn true (zs, false)).2.1.length ≤ n) := Lib.hid (by have := evIn_le true (zs, false); rw [← HN.out]; exact this)
 have HSZ := Lib.hid (evIn_size true (zs, false))
 have HDE : Hid (decE zs = if (evIn true (zs, false)).2.2 = false ∧ okE true (evIn true (zs, false)).1 = true ∧ chunkE true (evIn true (zs, false)).1 = zs.take (n - (evIn true (zs, false)).2.1.length) then ((evIn true (zs, false)).1, n - (evIn true (zs, false)).2.1.length, 0) else (ev0, 0, 2)) := Lib.hid (by rw [← HN.out]; rfl)
 generalize evIn true (zs, false) = R at *
 obtain ⟨x, rest, bad⟩ := R
 dsimp only at hi3 HLE HSZ HDE ⊢
 obtain ⟨r, hr⟩ : ∃ r, r = rest.length := ⟨_, rfl⟩
 rw [← hr] at HLE HDE
 obtain ⟨w4, hw4⟩ : ∃ w4, w4 = w3.alloc (.cells x.cells 55) := ⟨_, rfl⟩
 obtain ⟨V, hV⟩ : ∃ V, V = w3.heap.size := ⟨_, rfl⟩
 have hb4 : Below w3.heap.size w3 w4 := by rw [hw4]; exact (Below.refl _ _).alloc (Nat.le_refl _) _
 have HB3 : Hid (Below w.heap.size w w3) := Lib.hid (HB2.out.trans (hk3.below (B := w.heap.size) HB2.out.size (fun i hi => by omega)))
 have HB4 := Lib.hid (below_step HB3.out hb4)
 have HV4 : Hid (EvB w4 V x) := Lib.hid (by rw [hw4, hV]; exact heap_alloc_new _ _)
 have HR4 : Hid (EvB w4 w.heap.size ev0) := Lib.hid (by
  have h3 : EvB w3 w.heap.size ev0 := HR2.out.keep hk3 (by omega)
  exact (hb4.block _ (blk_lt h3)).trans h3)
 have HN4 := Lib.hid (hi3.below hb4)
 have HENC := Lib.hid (fun w' => encodeEvent x w' (by have := HSZ.out; omega))
 have HW4 := Lib.hid hw4
 have HV := Lib.hid hV
 have HRR := Lib.hid hr
 obtain ⟨nz, hnz⟩ : ∃ nz : Nat, nz = n - r := ⟨_, rfl⟩
 rw [← hnz] at HDE
 have HNZ := Lib.hid hnz
 have HSUB : Hid ((n : Int) - (r : Int) = (nz : Int)) := Lib.hid (by have := HLE.out; omega)
 have b0 : (0 : Int) ≤ (nz : Int) := by omega
 have b1 : (nz : Int) ≤ (n : Int) := by omega
 have b2 : (nz : Int) ≤ (cap : Int) := by have := HC.out; omega
 have b3 : nz ≤ cap := by have := HC.out; omega
 have HBN := Lib.hid (And.intro b0 (And.intro b1 (And.intro b2 b3)))
 unfold EV.cells at HW4 HENC
 unfold EV.cells
 clear hi3 hk3 hw4 hV hb4 hr hnz b0 b1 b2 b3
 go_upto_region 3 with fail
 rw [← HW4.out, ← HV.out]
 obtain ⟨ai, ci, q0, q1, _, _, _⟩ := HN4.out.cells
 dsimp only at q0 q1
 rw [← HRR.out] at q0
 obtain ⟨x0, x1, x2, x3, x4, x5, x6, x7, x8⟩ := HV4.out.all
 have hr0 : (0 : Int) ≤ (r : Int) := by omega
 have hrn : (r : Int) ≤ (n : Int) := by have := HLE.out; omega
 have hn6 : (n : Int) ≤ 1000000 := by have := HNL.out; omega
 go_wp2_with fail
 refine (HENC.out w4).mono ?_
 rintro en w5 ⟨eo, ec, rfl, he5, hb5, _, _, _⟩
 rw [evF_eq] at he5 ⊢
 have HB5 := Lib.hid (below_step HB4.out hb5)
 have HR5 : Hid (EvB w5 w.heap.size ev0) := Lib.hid ((hb5.block _ (blk_lt HR4.out)).trans HR4.out)
 have HV5 : Hid (EvB w5 V x) := Lib.hid ((hb5.block _ (blk_lt HV4.out)).trans HV4.out)
 have hi5 := HN4.out.below hb5
 obtain ⟨ai5, ci5, q05, q15, _⟩ := hi5.cells
 have HZ5 : Hid (IntsAt .u8 w5 ao (zs.take nz)) := Lib.hid ((ints_below HI.out HB5.out).take nz)
 have HZL : Hid ((zs.take nz).length = nz) := Lib.hid (by rw [List.length_take, HN.out]; have := HBN.out; omega)
 have HZB : Hid (InB (zs.take nz)) := Lib.hid (inB_take HIB.out nz)
 dsimp only at q15
 clear hb5 hi5 q05 q0 q1 x0 x1 x2 x3 x4 x5 x6 x7 x8 HENC HN4 HV4 HR4 HW4
 obtain ⟨x0, x1, x2, x3, x4, x5, x6, x7, x8⟩ := HV5.out.all
 have z0 := blk_frozen HR5.out 0
 have z1 := blk_frozen HR5.out 1
 have z2 := blk_frozen HR5.out 2
 have z3 := blk_frozen HR5.out 3
 have z4 := blk_frozen HR5.out 4
 have z5 := blk_frozen HR5.out 5
 have z6 := blk_frozen HR5.out 6
 have z7 := blk_frozen HR5.out 7
 have z8 := blk_frozen HR5.out 8
 obtain ⟨y0, y1, y2, y3, y4, y5, y6, y7, y8⟩ := HR5.out.all
 have HFIN : Hid (∀ v : EV, EvB (fillV w5 w.heap.size v) w.heap.size v ∧ Below w.heap.size w (fillV w5 w.heap.size v)) := Lib.hid (fun v => ⟨fillV_heap HR5.out v, below_fp HB5.out (fillV_keeps _ _ _) (fun i hi => by rw [hi]; exact Nat.le_refl _)⟩)
 rw [HSUB.out]
 have hbn := HBN.out
 obtain ⟨b0, b1, b2, b3⟩ := hbn
 by_cases hok : okE true x = true
 · rw [if_pos hok] at he5 ⊢
   dsimp only at he5 ⊢
   obtain ⟨L, hL⟩ : ∃ L, L = (chunkE true x).length := ⟨_, rfl⟩
   rw [← hL]
   have HEQ := Lib.hid (bytes_equal eo ao (chunkE true x) (zs.take nz) L nz ec cap w5 hL.symm HZL.out he5 HZ5.out (chunkE_in _ _) HZB.out)
   have HOK := Lib.hid hok
   clear he5 hL hok
   by_cases hc : bad = false ∧ chunkE true x = zs.take nz
   · obtain ⟨rfl, hcc⟩ := hc
     have HD1 : Hid (decE zs = (x, nz, 0)) := Lib.hid (by rw [HDE.out, if_pos ⟨rfl, HOK.out, hcc⟩])
     rw [← hcc, eqB_self] at HEQ
     clear hcc
     go_wp2_with fail
     refine HEQ.out.mono ?_
     rintro en w6 ⟨rfl, rfl⟩
     go_wp2_with fail
     obtain ⟨wF, hwF⟩ : ∃ wF, wF = fillV w5 w.heap.size x := ⟨_, rfl⟩
     obtain ⟨hv, hb⟩ := HFIN.out x
     rw [← hwF] at hv hb
     unfold fillV at hwF
     rw [← hwF]
     clear hwF x0 x1 x2 x3 x4 x5 x6 x7 x8 y0 y1 y2 y3 y4 y5 y6 y7 y8 z0 z1 z2 z3 z4 z5 z6 z7 z8
     have HB := Lib.hid hb
     obtain ⟨x0, x1, x2, x3, x4, x5, x6, x7, x8⟩ := hv.all
     refine bodyPost_ret (v := .tuple #[.agg x.cells, .int .i64 (nz : Int), .int .i64 0]) (by simp [results, Tryz.results41, go_sem, x0, x1, x2, x3, x4, x5, x6, x7, x8, EV.cells]) rfl ?_
     rw [HD1.out]
     exact ⟨rfl, HB.out⟩
   · have HD1 : Hid (decE zs = (ev0, 0, 2)) := Lib.hid (by rw [HDE.out, if_neg (fun h => hc ⟨h.1, h.2.2⟩)])
     cases bad
     case' false =>
      have he : eqB (chunkE true x) (zs.take nz) = false := by
       unfold eqB
       rw [decide_eq_false_iff_not]
       exact fun h => hc ⟨rfl, h⟩
      rw [he] at HEQ
      clear he hc
      go_wp2_with fail
      refine HEQ.out.mono ?_
      rintro en w6 ⟨rfl, rfl⟩
      go_wp2_with fail
     case' true =>
      clear hc
      go_wp2_with fail
     all_goals
      obtain ⟨wF, hwF⟩ : ∃ wF, wF = fillV w5 w.heap.size ev0 := ⟨_, rfl⟩
      obtain ⟨hv, hb⟩ := HFIN.out ev0
      rw [← hwF] at hv hb
      unfold fillV ev0 at hwF
      rw [← hwF]
      clear hwF x0 x1 x2 x3 x4 x5 x6 x7 x8 y0 y1 y2 y3 y4 y5 y6 y7 y8 z0 z1 z2 z3 z4 z5 z6 z7 z8
      have HB := Lib.hid hb
      obtain ⟨x0, x1, x2, x3, x4, x5, x6, x7, x8⟩ := hv.all
      refine bodyPost_ret (v := .tuple #[.agg ev0.cells, .int .i64 0, .int .i64 2]) (by simp [results, Tryz.results41, go_sem, x0, x1, x2, x3, x4, x5, x6, x7, x8, EV.cells]) rfl ?_
      rw [HD1.out]
      exact ⟨rfl, HB.out⟩
 · have HD1 : Hid (decE zs = (ev0, 0, 2)) := Lib.hid (by rw [HDE.out, if_neg (fun h => hok h.2.1)])
   rw [if_neg hok] at he5 ⊢
   dsimp only at he5 ⊢
   clear he5 hok
   cases bad
   all_goals
    go_wp2_with fail
    obtain ⟨wF, hwF⟩ : ∃ wF, wF = fillV w5 w.heap.size ev0 := ⟨_, rfl⟩
    obtain ⟨hv, hb⟩ := HFIN.out ev0
    rw [← hwF] at hv hb
    unfold fillV ev0 at hwF
    rw [← hwF]
    clear hwF x0 x1 x2 x3 x4 x5 x6 x7 x8 y0 y1 y2 y3 y4 y5 y6 y7 y8 z0 z1 z2 z3 z4 z5 z6 z7 z8
    have HB := Lib.hid hb
    obtain ⟨x0, x1, x2, x3, x4, x5, x6, x7, x8⟩ := hv.all
    refine bodyPost_ret (v := .tuple #[.agg ev0.cells, .int .i64 0, .int .i64 2]) (by simp [results, Tryz.results41, go_sem, x0, x1, x2, x3, x4, x5, x6, x7, x8, EV.cells]) rfl ?_
    rw [HD1.out]
    exact ⟨rfl, HB.out⟩
theorem okB_okE (r : RQ) : okB r = okE false r.ev := by
 have h1 := encReq_bad ([], false) r
 have h2 := evOut_snd false ([], false) r.ev
 have e : (encReq ([], false) r).2 = (evOut r.ev (hasN r.ev.k false) ([], false)).2 := rfl
 rw [h1, h2] at e
 simp only [Bool.false_or] at e
 have := congrArg (!·) e
 simpa using this
theorem mayRQ_okB (r : RQ) : mayRQ r = okB r := by rw [mayRQ_ok, okB_okE]
def XLPost (S : Nat → Prop) (W w : World) (n m : Nat) (E : Int) (s : LS) (T : Nat → Int) (X B q : Nat) (w' : World) : Prop :=
 ∃ S', XL S' W w' n m E s T X B q ∧ Keeps S w w' ∧ ∀ i, S' i → S i ∨ w.heap.size ≤ i
def evR (r : RQ) (p : Int) : EV := ⟨r.k, p, r.t, r.a, r.n, r.i, r.d, r.h, r.s⟩
theorem evR_1 {r : RQ} {p : Int} (ho : okB r = true) (hk : r.k = 1) : evR r p = ev01 r p := by
 obtain ⟨k, t, a, x, i, d, h, s⟩ := r
 unfold okB at ho
 dsimp only at ho hk
 rw [if_pos hk] at ho
 simp only [Bool.and_eq_true, decide_eq_true_eq] at ho
 obtain ⟨⟨_, _, b5⟩, b6, b7⟩ := ho
 unfold evR ev01
 dsimp only
 rw [b5, emptyB_eq _ b6]
theorem evR_3 {r : RQ} {p : Int} (ho : okB r = true) (hk : r.k = 3 ∨ r.k = 4) : (evR r p).setN 0 1 = ev00 r := by
 obtain ⟨k, t, a, x, i, d, h, s⟩ := r
 unfold okB at ho
 dsimp only at ho hk
 rcases hk with hk | hk
 · rw [if_neg (by omega), if_neg (by omega), if_pos hk] at ho
   simp only [Bool.and_eq_true, decide_eq_true_eq] at ho
   obtain ⟨⟨_, b1, b2, b3, b4⟩, b5⟩ := ho
   unfold evR ev00 EV.setN
   dsimp only
   rw [b1, b2, b3, b4, emptyB_eq _ b5]
   rfl
 · rw [if_neg (by omega), if_neg (by omega), if_neg (by omega), if_pos hk] at ho
   simp only [Bool.and_eq_true, decide_eq_true_eq] at ho
   obtain ⟨⟨_, b1, b2, b3, b4⟩, b5, _⟩ := ho
   unfold evR ev00 EV.setN
   dsimp only
   rw [b1, b2, b3, b4, emptyB_eq _ b5]
   rfl
theorem EvB.setn {w : World} {V : Nat} {e : EV} (h : EvB w V e) (j : Nat) (hj : j ≤ 6) (x : Int) : EvB (w.setCell ⟨V, j, none⟩ (.int .i64 x)) V (e.setN x j) := by
 have h1 := blk_set h j (.int .i64 x)
 rw [EV.set_num e x j hj] at h1
 exact h1
section
variable {n m : Nat} {E : Int} {s : LS} {p : Int} {r : RQ}
theorem does_1 (h : okB r = true ∧ 0 ≤ p ∧ p < n) (hk : r.k = 1) : doesF n m E s p r = if room E s 1 = true then (if r.n = 0 then ⟨1, 0, ev01 r p, s.b, s.l⟩ else ⟨moveE n m s.b p r.t r.a r.n, 0, ev01 r p, moveN n m s.b p r.t r.a r.n, s.l⟩) else ⟨12, 0, ev01 r p, s.b, s.l⟩ := by
 unfold doesF; rw [if_pos h, if_pos hk]
theorem does_2 (h : okB r = true ∧ 0 ≤ p ∧ p < n) (hk : r.k = 2) : doesF n m E s p r = if room E s 2 = true then ⟨lockE n m s.b p r.t r.a r.n r.h r.d s.ck, lockI n m s.b s.l p r.t r.a r.n r.h r.d s.ck, ev02 r p (lockI n m s.b s.l p r.t r.a r.n r.h r.d s.ck), lockB n m s.b p r.t r.a r.n r.h r.d s.ck, lockL n m s.b s.l p r.t r.a r.n r.h r.d s.ck⟩ else ⟨12, 0, ev00 r, s.b, s.l⟩ := by
 unfold doesF; rw [if_pos h, if_neg (by omega), if_pos hk]
theorem does_3 (h : okB r = true ∧ 0 ≤ p ∧ p < n) (hk : r.k = 3) : doesF n m E s p r = ⟨claimE n m s.b s.l p r.i r.s s.ck, 0, ev00 r, claimB n m s.b s.l p r.i r.s s.ck, claimL n m s.b s.l p r.i r.s s.ck⟩ := by
 unfold doesF; rw [if_pos h, if_neg (by omega), if_neg (by omega), if_pos hk]
theorem does_4 (h : okB r = true ∧ 0 ≤ p ∧ p < n) (hk : r.k = 4) : doesF n m E s p r = ⟨refundE n m s.b s.l p r.i s.ck, 0, ev00 r, refundB n m s.b s.l p r.i s.ck, refundL n m s.b s.l p r.i s.ck⟩ := by
 unfold doesF; rw [if_pos h, if_neg (by omega), if_neg (by omega), if_neg (by omega)]
theorem does_ei (hk : r.k = 2) (hc : (doesF n m E s p r).c = 0) : (doesF n m E s p r).e.i = (doesF n m E s p r).i := by
 by_cases h : okB r = true ∧ 0 ≤ p ∧ p < n
 · rw [does_2 h hk] at hc ⊢
   split at hc
   · rename_i h2; rw [if_pos h2]; rfl
   · simp at hc
 · exfalso
   unfold doesF at hc
   rw [if_neg h] at hc
   simp at hc
theorem NoSec.does (h : NoSec s.l) : NoSec (doesF n m E s p r).l := by
 unfold doesF
 repeat' split
 · exact h
 · exact h
 · exact h
 · exact h.lock _ _ _ _ _ _ _
 · exact h
 · exact h.claim _ _ _ _
 · exact h.refund _ _ _
 · exact h
end
section
variable {S : Nat → Prop} {W w : World} {n m : Nat} {b b' : Nat → Nat → Int} {l l' : List XR} {T : Nat → Int} {X p : Nat}
def XBPost (S : Nat → Prop) (W w : World) (n m : Nat) (b : Nat → Nat → Int) (l : List XR) (X p : Nat) (w' : World) : Prop := ∃ S', XB S' W w' n m b l X p ∧ Keeps S w w' ∧ ∀ i, S' i → S i ∨ w.heap.size ≤ i
theorem XB.lock (h : XB S W w n m b l X p) (hI : BInv n m b l T) (fr tt a amt : Int) (sh : ByteArray) (d ck : Int) :
 Calls Tryz.prog 88 #[.pointer (some ⟨X, 0, none⟩), .int .i64 fr, .int .i64 tt, .int .i64 a, .int .i64 amt, .string sh, .int .i64 d, .int .i64 ck] w fun e w' =>
  e = .returned (.tuple #[.int .i64 (lockI n m b l fr tt a amt sh d ck), .int .i64 (lockE n m b fr tt a amt sh d ck)]) ∧ XBPost S W w n m (lockB n m b fr tt a amt sh d ck) (lockL n m b l fr tt a amt sh d ck) X p w' := by
 obtain ⟨Sp, v, h1, h2, h3, h4⟩ := h
 refine (xbook_lock h1 hI fr tt a amt sh d ck).mono ?_
 rintro e w' ⟨rfl, hp⟩
 exact ⟨rfl, XB.post h1 h2 h3 h4 hp⟩
theorem XB.claim (h : XB S W w n m b l X p) (hI : BInv n m b l T) (who id : Int) (sec : ByteArray) (ck : Int) :
 Calls Tryz.prog 89 #[.pointer (some ⟨X, 0, none⟩), .int .i64 who, .int .i64 id, .string sec, .int .i64 ck] w fun e w' =>
  e = .returned (.int .i64 (claimE n m b l who id sec ck)) ∧ XBPost S W w n m (claimB n m b l who id sec ck) (claimL n m b l who id sec ck) X p w' := by
 obtain ⟨Sp, v, h1, h2, h3, h4⟩ := h
 refine (xbook_claim h1 hI who id sec ck).mono ?_
 rintro e w' ⟨rfl, hp⟩
 exact ⟨rfl, XB.post h1 h2 h3 h4 hp⟩
theorem XB.refund (h : XB S W w n m b l X p) (hI : BInv n m b l T) (hns : NoSec l) (who id ck : Int) :
 Calls Tryz.prog 90 #[.pointer (some ⟨X, 0, none⟩), .int .i64 who, .int .i64 id, .int .i64 ck] w fun e w' =>
  e = .returned (.int .i64 (refundE n m b l who id ck)) ∧ XBPost S W w n m (refundB n m b l who id ck) (refundL n m b l who id ck) X p w' := by
 obtain ⟨Sp, v, h1, h2, h3, h4⟩ := h
 refine (xbook_refund h1 hI hns who id ck).mono ?_
 rintro e w' ⟨rfl, hp⟩
 exact ⟨rfl, XB.post h1 h2 h3 h4 hp⟩
theorem XB.move (h : XB S W w n m b l X p) (hI : BInv n m b l T) (f t j x : Int) :
 Calls Tryz.prog 87 #[.pointer (some ⟨p, 0, none⟩), .int .i64 f, .int .i64 t, .int .i64 j, .int .i64 x] w fun e w' =>
  e = .returned (.int .i64 (moveE n m b f t j x)) ∧ XBPost S W w n m (moveN n m b f t j x) l X p w' := by
 obtain ⟨Sp, v, h1, h2, h3, h4⟩ := h
 refine (ref9_move p n m Sp b w h1.pu hI.good f t j x).mono ?_
 rintro e w' ⟨rfl, hp⟩
 have hk : Keeps S w w' := hp.2.mono (fun i _ hi => (h3 i).2 (Or.inr (Or.inr hi)))
 exact ⟨rfl, S, ⟨Sp, v, h1.purse hp, below_fp h2 hk h4, h3, h4⟩, hk, fun i hi => Or.inl hi⟩
theorem XB.cells (h : XB S W w n m b l X p) : w.cell? ⟨X, 0, none⟩ = some (.pointer (some ⟨p, 0, none⟩)) := by
 obtain ⟨Sp, v, h1, _⟩ := h
 exact h1.cells.1
end
def OneR (S Sb : Nat → Prop) (W w : World) (n m : Nat) (E : Int) (s : LS) (X B q : Nat) (st ve vw vn : Value) (R V : Nat) (r : RQ) (D : DA) (wx : World) : Prop :=
 ∃ Sb2, XDat Sb2 W wx n m E ⟨D.b, D.l, s.ck, s.es⟩ X B q st ve vw vn ∧ (∀ i, Sb2 i → Sb i ∨ V < i) ∧ Keeps S w wx ∧ RqB wx R r ∧ RpB wx (R + 1) 0 0 ∧ ∃ v, EvB wx V v ∧ (D.c = 0 → v = D.e)
section
variable {S Sb Sb2 : Nat → Prop} {W w w5 w6 : World} {n m : Nat} {E : Int} {s : LS} {X B q : Nat} {st ve vw vn : Value} {R V : Nat} {r : RQ} {D : DA} {v : EV}
theorem oneR_same (hx : XDat Sb W w5 n m E s X B q st ve vw vn) (hk : Keeps S w w5) (hr : RqB w5 R r) (hz : RpB w5 (R + 1) 0 0) (hv : EvB w5 V v) (hb : D.b = s.b) (hl : D.l = s.l) (he : D.c = 0 → v = D.e) : OneR S Sb W w n m E s X B q st ve vw vn R V r D w5 :=
 ⟨Sb, by rw [hb, hl]; exact hx, fun i hi => Or.inl hi, hk, hr, hz, v, hv, he⟩
theorem oneR_book (hx : XDat Sb W w5 n m E s X B q st ve vw vn) (hk : Keeps S w w5) (hr : RqB w5 R r) (hz : RpB w5 (R + 1) 0 0) (hv : EvB w5 V v) (he : D.c = 0 → v = D.e)
 (hlt : ∀ i, xfp Sb X ve vw vn i → i < R) (hRV : R + 1 < V) (hSb : ∀ i, Sb i → S i) (hp : XBPost Sb W w5 n m D.b D.l B q w6) : OneR S Sb W w n m E s X B q st ve vw vn R V r D w6 := by
 obtain ⟨S', h1, h2, h3⟩ := hp
 have hn : ∀ i, R ≤ i → ¬ Sb i := fun i hi hs => by have := hlt i (Or.inl hs); omega
 refine ⟨S', hx.book h1 h2 h3, fun i hi => ?_, hk.trans h2 (fun i hi => Or.inl (hSb i hi)), hr.keep h2 (hn R (Nat.le_refl _)), hz.keep h2 (hn (R + 1) (by omega)), v, hv.keep h2 (hn V (by omega)), he⟩
 rcases h3 i hi with e | e
 · exact Or.inl e
 · exact Or.inr (Nat.lt_of_lt_of_le (blk_lt hv) e)
theorem OneR.setV {D' : DA} (h : OneR S Sb W w n m E s X B q st ve vw vn R V r D' w5) (hb' : D.b = D'.b) (hl' : D.l = D'.l) (hlt : ∀ i, xfp Sb X ve vw vn i → i < R) (hRV : R + 1 < V) (hV : w.heap.size ≤ V) (hWV : W.heap.size ≤ V) (j : Nat) (u : Value) (v' : EV) (hb : EvB (w5.setCell ⟨V, j, none⟩ u) V v') (he : D.c = 0 → v' = D.e) : OneR S Sb W w n m E s X B q st ve vw vn R V r D (w5.setCell ⟨V, j, none⟩ u) := by
 obtain ⟨S2, h1, h2, h3, h4, h5, v, h6, h7⟩ := h
 rw [← hb', ← hl'] at h1
 have hk : Keeps (fun i => i = V) w5 (w5.setCell ⟨V, j, none⟩ u) := (Keeps.refl (fun i => i = V) w5).setCell (p := ⟨V, j, none⟩) (Or.inl rfl) _
 refine ⟨S2, h1.keep hk (fun i hi hh => ?_) (fun i hi => by rw [hi]; exact hWV), h2, h3.trans hk (fun i hi => Or.inr (by rw [hi]; exact hV)), h4.keep hk (by omega), h5.keep hk (by omega), v', hb, he⟩
 rw [hi] at hh
 rcases hh with e | e
 · rcases h2 V e with e | e
   · have := hlt V (Or.inl e); omega
   · omega
 · have := hlt V (Or.inr e); omega
end
end Go.Proofs.YtkaciaehlibidaaGreat
