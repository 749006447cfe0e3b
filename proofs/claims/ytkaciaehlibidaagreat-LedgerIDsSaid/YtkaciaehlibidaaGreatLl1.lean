/- Law 12: Few, first. -/
import Derived.Test.YtkaciaehlibidaaGreatLl0
import Derived.Test.YtkaciaehlibidaaGreatPur7a
namespace Go.Proofs.YtkaciaehlibidaaGreat
open Go.RowKit
set_option linter.unusedVariables false
set_option linter.unusedSimpArgs false

/-- What Few tells. -/
def F12 (w : World) (r : Nat) (ls : List LO) (e : Ending) (w' : World) : Prop := ∃ F : Bool, e = .returned (.bool F) ∧ Below w.heap.size w w' ∧ (F = true → r ≤ 100 ∧ ∀ o ∈ ls, fewRq o.rs = true)
set_option maxRecDepth 100000 in
set_option maxHeartbeats 2000000 in
theorem few12_any (ao : Option Addr) (bs : List ISl) (n cap : Nat) (E : Int) (w : World) (hn : bs.length = n) (h : IntsList w ao bs) (hcap : n ≤ cap) (hm : cap ≤ maxLen) (lo : Option Addr) (ls : List LO) (r lc : Nat) (hr : ls.length = r) (h2 : LosAt w lo ls) (hrc : r ≤ lc) (hrm : lc ≤ maxLen) :
    Calls Tryz.prog 9 #[.agg #[.slice ao n cap, .int .i64 E], .slice lo r lc] w (F12 w r ls) := by
  obtain ⟨w1, hw1⟩ : ∃ w1, w1 = w.alloc (.cells #[.slice ao n cap, .int .i64 E] 24) := ⟨_, rfl⟩
  obtain ⟨C, hC⟩ : ∃ C, C = w.heap.size := ⟨_, rfl⟩
  have hb1 : Below w.heap.size w w1 := by rw [hw1]; exact (Below.refl _ _).alloc (Nat.le_refl _) _
  have HB1 := Lib.hid hb1
  have HX1 : Hid (w1.heap[C]? = some (.cells #[.slice ao n cap, .int .i64 E] 24 (0, 0))) := Lib.hid (by rw [hw1, hC]; exact heap_alloc_new _ _)
  have HW1 := Lib.hid hw1
  have HC := Lib.hid hC
  have HF9 := Lib.hid (fun w' (hb : Below w.heap.size w w') => few9_any ao bs n cap w' hn (h.below hb) hcap hm)
  have HLS := Lib.hid h2
  have HR := Lib.hid hr
  have HRM : Hid (r ≤ maxLen) := Lib.hid (Nat.le_trans hrc hrm)
  generalize fewB (bs.map (fun o => o.zs.length)) 100 1000 = B9 at *
  clear hw1 hC hb1 h h2 hn hr hcap hm hrc hrm
  have hrl : (r : Int) ≤ 9223372036854775807 := by have := HRM.out; unfold maxLen at this; omega
  go_enter Tryz.func9, Tryz.ntmps9
  go_upto_region 1 with fail
  rw [← HW1.out, ← HC.out]
  go_wp2_with fail
  go_loopw [5, 6] (fun s i wr => ∃ k : Nat, k ≤ r ∧ k ≤ 100 ∧ i = .int .i64 (k : Int) ∧ ∃ t : Nat, s = .int .i64 (t : Int) ∧ t ≤ k * 100 ∧ Below w.heap.size w wr ∧ wr.heap[C]? = some (.cells #[.slice ao n cap, .int .i64 E] 24 (0, 0)) ∧ ∀ j (hj : j < ls.length), j < k → fewRq ls[j].rs = true) (fun _ i _ => r - (intOf i).toNat)
  case atStart => exact ⟨0, by omega, by omega, rfl, 0, rfl, by omega, HB1.out, HX1.out, fun j _ h => by omega⟩
  case round =>
    obtain ⟨k, hk, hk2, rfl, t, rfl, ht, hb, hx, hf⟩ := hrel
    have HB := Lib.hid hb
    have HX := Lib.hid hx
    have HFW := Lib.hid hf
    clear hb hx hf
    have k0 : (0 : Int) ≤ (k : Int) := by omega
    have t0 : (0 : Int) ≤ (t : Int) := by omega
    have t1 : (t : Int) ≤ 10000 := by omega
    by_cases hlt : k < r ∧ k < 100
    · have k1 : (k : Int) < (r : Int) := by omega
      have k2 : (k : Int) < 100 := by omega
      have hkl : k < ls.length := by rw [HR.out]; exact hlt.1
      have HKL : Hid (k < r ∧ k < 100) := Lib.hid hlt
      have HT := Lib.hid ht
      have HLB := Lib.hid (HLS.out.below HB.out)
      obtain ⟨b, off, rfl, c0, c1, c2, c3⟩ := HLB.out.at_ k hkl
      have HOK := Lib.hid (HLB.out.2 ls[k] (List.getElem_mem hkl))
      have HNX : Hid (fewRq ls[k].rs = true → ∀ j (hj : j < ls.length), j < k + 1 → fewRq ls[j].rs = true) := Lib.hid (fun h j hj hjk => by
        by_cases e : j < k
        · exact HFW.out j hj e
        · obtain rfl : j = k := by omega
          exact h)
      generalize ls[k] = o at *
      have HLEN : Hid (fewRq o.rs = true → o.n ≤ 100) := Lib.hid (fun h => by have := (fewRq_facts _ h).1; rw [HOK.out.2.1] at this; exact this)
      have HRR : Hid (r - (k + 1) < r - k) := Lib.hid (by omega)
      clear hlt hk hk2 hkl ht
      go_wp2_with fail
      refine (few11_any o.q o.ro o.rs o.n o.cap wr HOK.out.2.1 HOK.out.1 HOK.out.2.2.1 HOK.out.2.2.2).mono ?_
      rintro e w2 ⟨rfl, hb2⟩
      have HB2 := Lib.hid (below_step HB.out hb2)
      have HX2 : Hid (w2.heap[C]? = some (.cells #[.slice ao n cap, .int .i64 E] 24 (0, 0))) := Lib.hid ((hb2.block C (blk_lt HX.out)).trans HX.out)
      have hb2' := hb2
      have d3 : w2.cell? ⟨b, off + k * 4 + 3, none⟩ = some (.slice o.ro o.n o.cap) := by rw [hb2.cell (World.block_lt_of_cell? wr _ c3)]; exact c3
      clear hb2 hb2' c0 c1 c2 c3
      cases hfr : fewRq o.rs
      case false =>
        clear hfr
        go_wp2
        go_ret
        exact ⟨false, rfl, HB2.out, fun h => by cases h⟩
      have HN1 := Lib.hid (HNX.out hfr)
      have hn1 : (o.n : Int) ≤ 100 := by have := HLEN.out hfr; omega
      have hn0 : (0 : Int) ≤ (o.n : Int) := by omega
      have HON : Hid (o.n ≤ 100) := Lib.hid (HLEN.out hfr)
      clear hfr
      go_wp2
      go_roundw
      case rel => exact ⟨k + 1, HKL.out.1, HKL.out.2, by go_num, t + o.n, by go_num, by have := HT.out; have := HON.out; omega, HB2.out, HX2.out, HN1.out⟩
      case measure => simpa [intOf] using HRR.out
    · have q0 := blk_cell HX.out 0
      simp only [List.getElem?_toArray, List.getElem?_cons_zero, List.getElem?_cons_succ] at q0
      have HF := Lib.hid (HF9.out wr HB.out)
      have HFA : Hid (r ≤ 100 → ∀ o ∈ ls, fewRq o.rs = true) := Lib.hid (fun h o ho => by
        obtain ⟨j, hj, rfl⟩ := List.mem_iff_getElem.1 ho
        exact HFW.out j hj (by have := HR.out; omega))
      by_cases hkr : k < r
      · have k1 : (k : Int) < (r : Int) := by omega
        have k2 : ¬ (k : Int) < 100 := by omega
        have r1 : ¬ (r : Int) ≤ 100 := by omega
        clear hlt hk hk2 hkr ht
        go_wp2_with fail
        refine HF.out.mono ?_
        rintro e w2 ⟨rfl, rfl⟩
        cases B9 <;>
        · go_wp2
          go_ret
          exact ⟨false, rfl, HB.out, fun h => by cases h⟩
      · obtain rfl : k = r := by omega
        have k1 : ¬ (k : Int) < (k : Int) := by omega
        have HK2 := Lib.hid hk2
        have r1 : (k : Int) ≤ 100 := by omega
        clear hlt hk hk2 hkr ht
        go_wp2_with fail
        refine HF.out.mono ?_
        rintro e w2 ⟨rfl, rfl⟩
        cases B9
        case false =>
          go_wp2
          go_ret
          exact ⟨false, rfl, HB.out, fun h => by cases h⟩
        go_wp2
        go_ret
        exact ⟨_, rfl, HB.out, fun _ => ⟨HK2.out, HFA.out HK2.out⟩⟩

theorem ex12 (h : Nat) : confOK (ex9 h) 4 = true := by unfold confOK; rw [ex9_may]; decide
set_option maxRecDepth 100000 in
set_option maxHeartbeats 2000000 in
theorem first12_any (w : World) : Calls Tryz.prog 8 #[] w fun e w' => e = .returned (.bool true) ∧ Below w.heap.size w w' := by
  have HN := Lib.hid (fun (w1 : World) (hb : Below w.heap.size w w1) (ht : TabOk w1 w.heap.size) =>
    ledger_yes w w.heap.size (some ⟨w1.heap.size + 2, 0, none⟩) (ex9 w1.heap.size) 2 2 1 4 (world2 w1 5 0) (below_step hb (world2_below w1 5 0)) (ht.below (world2_below w1 5 0)) (Nat.le_refl _) rfl (world2_rows w1 5 0 (by decide) (by decide)) (ex12 _) rfl)
  unfold world2 at HN
  go_enter Tryz.func8, Tryz.ntmps8
  go_wp2_with fail
  refine (newTable_any w).mono ?_
  rintro e w1 ⟨rfl, ht, hb⟩
  have HN1 := Lib.hid (HN.out w1 hb ht)
  clear ht hb HN
  go_wp2_with fail
  refine HN1.out.mono ?_
  rintro e w2 ⟨S, A, B, q, rfl, hd, _, _⟩
  have HD := Lib.hid hd
  clear hd HN1
  have HAP := Lib.hid (ledger_apply HD.out 0 7 0 none [] 0 0 rfl (Nat.le_refl _) (Nat.zero_le _) (fun _ _ => Or.inl rfl) (fun r h => by cases h))
  have hs : applyF 2 1 4 ⟨balOf (ex9 w1.heap.size), [], 0, []⟩ 0 7 [] = ⟨balOf (ex9 w1.heap.size), [], 7, []⟩ := by
    unfold applyF runF tickF
    rw [if_pos (by decide)]
    rfl
  have hy : appR 2 1 4 ⟨balOf (ex9 w1.heap.size), [], 0, []⟩ 0 7 [] = [] := rfl
  rw [hs, hy] at HAP
  clear hs hy
  go_wp2_with fail
  refine HAP.out.mono ?_
  rintro e w3 ⟨ra, rc, ea, ec, rfl, _, _, _, _, S3, hd3, _⟩
  have HD3 := Lib.hid hd3
  have hdr : dropF (LS.evs ⟨balOf (ex9 w1.heap.size), [], 7, []⟩) 0 = [] := rfl
  rw [hdr]
  clear hd3 hdr HAP HD
  go_upto_region 5 with fail
  obtain ⟨w4, hw4⟩ : ∃ w4, w4 = w3.alloc (.cells #[.int .i64 7, .int .i64 0, .slice ra 0 rc, .slice ea 0 ec] 37) := ⟨_, rfl⟩
  have hb4 : Below w3.heap.size w3 w4 := by rw [hw4]; exact (Below.refl _ _).alloc (Nat.le_refl _) _
  have HD4 := Lib.hid (HD3.out.below hb4)
  have hx4 : w4.heap[w3.heap.size]? = some (.cells #[.int .i64 7, .int .i64 0, .slice ra 0 rc, .slice ea 0 ec] 37 (0, 0)) := by rw [hw4]; exact heap_alloc_new _ _
  have x0 := blk_cell hx4 0
  have x1 := blk_cell hx4 1
  have x2 := blk_cell hx4 2
  have x3 := blk_cell hx4 3
  simp only [List.getElem?_toArray, List.getElem?_cons_zero, List.getElem?_cons_succ] at x0 x1 x2 x3
  rw [← hw4]
  clear hx4 hb4 hw4 HD3
  obtain ⟨Sb, v, hd, _, _⟩ := HD4.out.dat
  have HCK := Lib.hid (ledger_clock hd)
  clear hd
  go_wp2_with fail
  refine HCK.out.mono ?_
  rintro e w5 ⟨rfl, rfl⟩
  go_wp2
  go_ret
  exact ⟨rfl, HD4.out.bel⟩

end Go.Proofs.YtkaciaehlibidaaGreat
