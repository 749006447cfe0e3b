/- ShaLong is true for every input, and its arguments read behind the call as before; no condition: the walk. -/
import Derived.Test.YthncpbihnhpacaaShaS
namespace Go.Proofs.Ythncpbihnhpacaa
open Go.RowKit
set_option linter.unusedVariables false
set_option linter.unusedSimpArgs false

set_option maxRecDepth 100000 in
set_option maxHeartbeats 4000000 in
theorem walk_shaLong (N : Int) (w0 : (Lit.int .i64 N).wf = true) (W : World) :
    Calls Try.prog 6 #[.int .i64 N] W fun e w' => e = .returned (.bool true) ∧ Below W.heap.size W w' := by
  clear w0
  by_cases hr : 0 ≤ N ∧ N ≤ 400
  · obtain ⟨h0, h400⟩ := hr
    obtain ⟨n, rfl⟩ := Int.eq_ofNat_of_zero_le h0
    have HL := Lib.hid (show n ≤ 400 by omega)
    have c2 : ¬ (400 : Int) < (n : Int) := by omega
    have hmk := fun w => run_make_row' (P := Try.prog) 22 5 (.int .u8 0) 1 Try.underlying22 Try_infoU8 rfl .i64 .i64 n (by omega) (by omega) w
    clear h0 h400
    go_enter Try.func6, Try.ntmps6
    go_wp2_with fail
    refine (first2_any W).mono ?_
    rintro e w1 ⟨rfl, hb1⟩
    have HB1 := Lib.hid hb1
    clear hb1
    go_wp2_with fail
    refine (newTable_any w1).mono ?_
    rintro e w2 ⟨rfl, ht2, hb2⟩
    have HT2 := Lib.hid ht2
    have HB2 : Hid (Below W.heap.size W w2) := Lib.hid (below_step HB1.out hb2)
    have HLT := Lib.hid HB1.out.size
    generalize w1.heap.size = tb at *
    clear hb2 ht2 HB1
    go_wp2_with fail
    obtain ⟨w3, hw3⟩ : ∃ w3, w3 = w2.alloc (.cells (madeCells #[Value.int .u8 0] n) 5) := ⟨_, rfl⟩
    have hb3 : Below w2.heap.size w2 w3 := by rw [hw3]; exact (Below.refl _ _).alloc (Nat.le_refl _) _
    have HI3 : Hid (IntsAt .u8 w3 (some ⟨w2.heap.size, 0, none⟩) (List.replicate n 0)) := Lib.hid (by rw [hw3]; exact ints_made n)
    have HB3 : Hid (Below W.heap.size W w3) := Lib.hid (below_step HB2.out hb3)
    have HT3 := Lib.hid (HT2.out.below hb3)
    have HL3 : Hid (w2.heap.size < w3.heap.size ∧ tb < w2.heap.size) := Lib.hid ⟨by rw [hw3]; simp, HT2.out.lt⟩
    rw [← hw3]
    clear hw3 hb3 HB2 HT2 hmk
    generalize w2.heap.size = bk at *
    refine (new_any tb w3 HT3.out).mono ?_
    rintro e w4 ⟨rfl, ht4, hh4, hk4⟩
    have HH4 : Hid (HashIn w4 w3.heap.size tb [] w4) := Lib.hid (HashIn.mk ht4 hh4)
    have HB4 : Hid (Below W.heap.size W w4) := Lib.hid (below_keeps HB3.out hk4 HLT.out)
    have HI4 : Hid (IntsAt .u8 w4 (some ⟨bk, 0, none⟩) (List.replicate n 0)) := Lib.hid (HI3.out.same (fun a ha hl => by
      cases ha
      exact hk4.block bk hl (by have := HL3.out; omega)))
    have HL4 : Hid (bk < w3.heap.size ∧ tb < bk ∧ w3.heap.size ≤ w4.heap.size) := Lib.hid ⟨HL3.out.1, HL3.out.2, hk4.size⟩
    have HPW := Lib.hid HB3.out.size
    clear ht4 hh4 hk4 HB3 HT3 HI3 HL3
    generalize w3.heap.size = p at *
    go_wp2_with fail
    go_loopw [6] (fun i wr => ∃ k : Nat, k ≤ n ∧ i = .int .i64 k ∧ HashIn w4 p tb (List.replicate k 0) wr ∧ wr.heap[bk]? = w4.heap[bk]?) (fun i _ => n - (intOf i).toNat)
    case atStart => exact ⟨0, Nat.zero_le _, rfl, HH4.out, rfl⟩
    case round =>
      obtain ⟨k, hk, rfl, hh, hbk⟩ := hrel
      have HH := Lib.hid hh
      have HBK := Lib.hid hbk
      clear hh hbk
      by_cases hlt : k < n
      · have HIR : Hid (IntsAt .u8 wr (some ⟨bk, k, none⟩) [0]) := Lib.hid (by
          have h1 := (HI4.out.same (w' := wr) (fun a ha hl => by cases ha; exact HBK.out)).drop k
          rw [Nat.zero_add] at h1
          have h2 := h1.take 1
          have e : ((List.replicate n (0 : Int)).drop k).take 1 = [0] := by
            rw [List.drop_replicate, List.take_replicate, show min 1 (n - k) = 1 by omega]; rfl
          rwa [e] at h2)
        have HW := Lib.hid (hashIn_write HH.out (some ⟨bk, k, none⟩) [0] 1 (n - k) rfl HIR.out (fun z hz => by simp at hz; omega) (Or.inr (fun a ha => by cases ha; have := HL4.out; dsimp only; omega)) (by have := HL.out; simp; omega))
        have b1 : (k : Int) < (n : Int) := by omega
        have b0 : (0 : Int) ≤ (k : Int) := by omega
        have b2 : (k : Int) ≤ (k : Int) + 1 := by omega
        have b3 : (k : Int) + 1 ≤ (n : Int) := by omega
        have e2 : ((k : Int) + 1).toNat = k + 1 := by omega
        have e3 : wrap64 ((k : Int) + 1) = (k : Int) + 1 := by have := HL.out; unfold wrap64; omega
        have e4 : k + 1 - k = 1 := by omega
        have b6 : ¬ n = k := by omega
        go_wp2_with fail
        refine HW.out.mono ?_
        rintro e w5 ⟨rfl, hh5, hs5⟩
        have HBK5 : Hid (w5.heap[bk]? = w4.heap[bk]?) := Lib.hid ((hs5 bk (by have := HL4.out; omega) (by have := HL4.out; omega) (by have := HL4.out; omega)).trans HBK.out)
        have HW5 := Lib.hid (hashIn_write hh5 none [] 0 0 rfl (Or.inl rfl) (fun z hz => by cases hz) (Or.inl rfl) (by have := HL.out; simp; omega))
        clear hh5 hs5
        go_wp2_with fail
        refine HW5.out.mono ?_
        rintro e w6 ⟨rfl, hh6, hs6⟩
        have HBK6 : Hid (w6.heap[bk]? = w4.heap[bk]?) := Lib.hid ((hs6 bk (by have := HL4.out; omega) (by have := HL4.out; omega) (by have := HL4.out; omega)).trans HBK5.out)
        have HH6 : Hid (HashIn w4 p tb (List.replicate (k + 1) 0) w6) := Lib.hid (by
          rw [List.replicate_succ']; simpa using hh6)
        clear hh6 hs6
        go_wp2_with fail
        go_roundw
        case rel => first | exact ⟨k + 1, by omega, by go_num, HH6.out, HBK6.out⟩ | ((repeat apply Exists.intro); refine ⟨?_, rfl⟩; exact ⟨k + 1, by omega, by go_num, HH6.out, HBK6.out⟩)
        case measure => simp [intOf]; omega
      · obtain rfl : k = n := by omega
        have HS1 := Lib.hid (hashIn_sum HH.out (by have := HL.out; simp; omega))
        have HSL := Lib.hid (shaF_len (List.replicate k 0))
        go_wp2_with fail
        refine HS1.out.mono ?_
        rintro e w5 ⟨g1, c1, rfl, hh5, ho5, hk5, hg5⟩
        have HS2 := Lib.hid (hashIn_sum hh5 (by have := HL.out; simp; omega))
        have HR5 := Lib.hid (owns_at ho5).2.1
        have HK5 := Lib.hid hk5
        have HG5 : Hid (wr.heap.size ≤ g1 ∧ g1 < w5.heap.size) := Lib.hid ⟨hg5, (ho5.lt g1 rfl).2⟩
        clear hh5 ho5 hk5 hg5
        go_wp2_with fail
        refine HS2.out.mono ?_
        rintro e w6 ⟨g2, c2', rfl, hh6, ho6, hk6, hg6⟩
        have HR6 := Lib.hid (owns_at ho6).2.1
        have HTBL : Hid (tb < wr.heap.size) := Lib.hid HH.out.tab.lt
        have HR6' : Hid (IntsAt .u8 w6 (some ⟨g1, 0, none⟩) (shaF (List.replicate k 0))) := Lib.hid (HR5.out.same (fun a ha hl => by
          cases ha
          exact hk6.block g1 hl (by have := HG5.out; have := HTBL.out; omega)))
        have HK6 : Hid (Keeps (fun i => i = tb) wr w6) := Lib.hid (HK5.out.trans hk6 (fun i h => Or.inl h))
        have HB6 : Hid (Below W.heap.size W w6) := Lib.hid (below_keeps (tb := tb) (((Keeps.of_below (S := fun _ => False) HB4.out).trans HH.out.keeps (fun i h => Or.inr (by have := HPW.out; have := HLT.out; omega))).below (Nat.le_refl _) (fun _ h => h.elim)) HK6.out HLT.out)
        have HI6 : Hid (IntsAt .u8 w6 (some ⟨bk, 0, none⟩) (List.replicate k 0)) := Lib.hid (HI4.out.same (fun a ha hl => by
          cases ha
          have h1 : wr.heap[bk]? = w4.heap[bk]? := HBK.out
          exact (HK6.out.block bk (by have := HH.out.keeps.size; have := HL4.out; omega) (by have := HL4.out; omega)).trans h1))
        clear hh6 ho6 hk6 hg6
        go_wp2_with fail
        refine (first2_any w6).mono ?_
        rintro e w7 ⟨rfl, hb7⟩
        have HR7 := Lib.hid (ints_below HR6.out hb7)
        have HR7' := Lib.hid (ints_below HR6'.out hb7)
        have HI7 := Lib.hid (ints_below HI6.out hb7)
        have HB7 : Hid (Below W.heap.size W w7) := Lib.hid (below_step HB6.out hb7)
        clear hb7
        have HH7 := Lib.hid (rhash_any (some ⟨bk, 0, none⟩) (List.replicate k 0) k k w7 (by simp) HI7.out (inB_zeros k) (by have := HL.out; omega))
        go_wp2_with fail
        refine HH7.out.mono ?_
        rintro e w8 ⟨ao8, c8, rfl, ho8, hb8, hf8⟩
        have HE := Lib.hid (bytes_eq (some ⟨g1, 0, none⟩) ao8 (shaF (List.replicate k 0)) (shaF (List.replicate k 0)) 32 (shaF (List.replicate k 0)).length c1 c8 w8 HSL.out rfl (ints_below HR7'.out hb8) (owns_at ho8).2.1 (shaF_inB _) (shaF_inB _))
        have HE2 := Lib.hid (bytes_eq (some ⟨g1, 0, none⟩) (some ⟨g2, 0, none⟩) (shaF (List.replicate k 0)) (shaF (List.replicate k 0)) 32 32 c1 c2' w8 HSL.out HSL.out (ints_below HR7'.out hb8) (ints_below HR7.out hb8) (shaF_inB _) (shaF_inB _))
        have HB8 : Hid (Below W.heap.size W w8) := Lib.hid (below_step HB7.out hb8)
        clear ho8 hb8 hf8
        go_wp2_with fail
        refine HE.out.mono ?_
        rintro e w9 ⟨rfl, rfl⟩
        rw [eqB_self]
        go_wp2_with fail
        refine HE2.out.mono ?_
        rintro e w9 ⟨rfl, rfl⟩
        rw [eqB_self]
        go_wp2
        go_ret
        exact ⟨rfl, HB8.out⟩
  · have hcase : N < 0 ∨ (¬ N < 0 ∧ 400 < N) := by omega
    clear hr
    rcases hcase with hs | ⟨hs, hs2⟩
    all_goals
      go_enter Try.func6, Try.ntmps6
      go_wp2_with fail
      refine (first2_any W).mono ?_
      rintro e w1 ⟨rfl, hb1⟩
      have HB1 := Lib.hid hb1
      clear hb1
      go_wp2_with fail
      refine (newTable_any w1).mono ?_
      rintro e w2 ⟨rfl, ht2, hb2⟩
      have HB2 : Hid (Below W.heap.size W w2) := Lib.hid (below_step HB1.out hb2)
      clear hb2 ht2
      go_wp2_with fail
      refine (first2_any w2).mono ?_
      rintro e w3 ⟨rfl, hb3⟩
      have HB3 : Hid (Below W.heap.size W w3) := Lib.hid (below_step HB2.out hb3)
      clear hb3
      go_wp2
      go_ret
      exact ⟨rfl, HB3.out⟩

end Go.Proofs.Ythncpbihnhpacaa
