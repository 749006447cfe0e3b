/- Parts of the proof: Refr Refk Lx5a Pur2 Ex1 Ex2. -/
import Derived.Test.YtkaciaehlibidaaGreatZ01
import Derived.Test.YtkaciaehlibidaaGreatZ08
import Derived.Test.YtkaciaehlibidaaGreatZ12
import Derived.Test.YtkaciaehlibidaaGreatZ13
namespace Go.Proofs.YtkaciaehlibidaaGreat
open Go.RowKit
set_option linter.unusedVariables false
set_option linter.unusedSimpArgs false
theorem putEvent_chunk1 (r : EV) (hk : r.k = 1) (ho : okE true r = true) : chunkE true r = putB r.k 1 ++ (putB r.f 1) ++ (putB r.t 1) ++ (putB r.a 1) ++ (putB r.n 8) ∧ fitsB r.f 1 = true ∧ fitsB r.t 1 = true ∧ fitsB r.a 1 = true ∧ fitsB r.n 8 = true ∧ r.s = ⟨#[]⟩ := by
 have e0 : r.k = 1 := hk
 unfold okE at ho
 rw [e0] at ho
 simp only [if_pos, if_neg, reduceIte, Int.reduceEq, Bool.and_eq_true, decide_eq_true_eq, Bool.false_eq_true] at ho
 refine ⟨?_, ?_⟩
 · unfold chunkE
   rw [e0]
   try rw [hk]
   simp [hasN, partE, numSign, txtSign, EV.num, EV.txt]
 · simp only [emptyB_is] at ho
   simp only [ho, and_self, true_and, and_true]
theorem putEvent_chunk2 (r : EV) (hk : r.k = 2) (ho : okE true r = true) : chunkE true r = putB r.k 1 ++ (putB r.f 1) ++ (putB r.t 1) ++ (putB r.a 1) ++ (putB r.n 8) ++ (putB r.i 2) ++ (strNums r.h) ++ (putB r.d 8) ∧ fitsB r.f 1 = true ∧ fitsB r.t 1 = true ∧ fitsB r.a 1 = true ∧ fitsB r.n 8 = true ∧ fitsB r.i 2 = true ∧ fitsB r.d 8 = true ∧ r.s = ⟨#[]⟩ ∧ r.h.size = 32 := by
 have e0 : r.k = 2 := hk
 unfold okE at ho
 rw [e0] at ho
 simp only [if_pos, if_neg, reduceIte, Int.reduceEq, Bool.and_eq_true, decide_eq_true_eq, Bool.false_eq_true] at ho
 refine ⟨?_, ?_⟩
 · unfold chunkE
   rw [e0]
   try rw [hk]
   simp [hasN, partE, numSign, txtSign, EV.num, EV.txt]
 · simp only [emptyB_is] at ho
   simp only [ho, and_self, true_and, and_true]
theorem putEvent_chunk3 (r : EV) (hk : r.k = 3) (ho : okE true r = true) : chunkE true r = putB r.k 1 ++ (putB r.i 2) ++ (strNums r.s) ∧ fitsB r.i 2 = true ∧ r.s.size = 32 := by
 have e0 : r.k = 3 := hk
 unfold okE at ho
 rw [e0] at ho
 simp only [if_pos, if_neg, reduceIte, Int.reduceEq, Bool.and_eq_true, decide_eq_true_eq, Bool.false_eq_true] at ho
 refine ⟨?_, ?_⟩
 · unfold chunkE
   rw [e0]
   try rw [hk]
   simp [hasN, partE, numSign, txtSign, EV.num, EV.txt]
 · simp only [emptyB_is] at ho
   simp only [ho, and_self, true_and, and_true]
theorem putEvent_chunk4 (r : EV) (hk : r.k = 4) (ho : okE true r = true) : chunkE true r = putB r.k 1 ++ (putB r.i 2) ∧ fitsB r.i 2 = true ∧ r.s = ⟨#[]⟩ := by
 have e0 : r.k = 4 := hk
 unfold okE at ho
 rw [e0] at ho
 simp only [if_pos, if_neg, reduceIte, Int.reduceEq, Bool.and_eq_true, decide_eq_true_eq, Bool.false_eq_true] at ho
 refine ⟨?_, ?_⟩
 · unfold chunkE
   rw [e0]
   try rw [hk]
   simp [hasN, partE, numSign, txtSign, EV.num, EV.txt]
 · simp only [emptyB_is] at ho
   simp only [ho, and_self, true_and, and_true]
set_option maxRecDepth 100000 in
set_option maxHeartbeats 4000000 in
theorem putEvent (p : Nat) (v : Value) (bs : List Int) (r : EV) (w : World) (h : EncAt 129 w p v bs 0) (ho : okE true r = true) (hlen : bs.length + 100 ≤ 140737488355328) :
 Calls Tryz.prog 53 #[.pointer (some ⟨p, 0, none⟩), .agg r.cells] w fun en w' => en = .returned (.tuple #[]) ∧ EncPost 129 w p v (bs ++ chunkE true r) 0 w' := by
 obtain ⟨w1, hw1⟩ : ∃ w1, w1 = w.alloc (.cells r.cells 55) := ⟨_, rfl⟩
 have HP0 : Hid (Putting w1 w1 p v v w.heap.size r.cells 55 bs) := Lib.hid (by subst hw1; exact Putting.start h r.cells 55)
 have HOUT : Hid (∀ bs' w', EncPost 129 w1 p v bs' 0 w' → EncPost 129 w p v bs' 0 w') := Lib.hid (fun bs' w' hp => by subst hw1; exact put_out hp)
 have kc := fun (w : World) (s : ByteArray) => Lib.run_convert_string_bytes (P := Tryz.prog) w 9 62 5 s Tryz.underlying9 Tryz.underlying62 Tryz.underlying5
 have HKK : Hid (r.k = 1 ∨ r.k = 2 ∨ r.k = 3 ∨ r.k = 4) := Lib.hid (okE_k true r ho)
 have HO := Lib.hid ho
 have HL := Lib.hid hlen
 unfold EV.cells at hw1
 have HW1 := Lib.hid hw1
 have HC : Hid (∀ wr v' bs', Putting w1 wr p v v' w.heap.size r.cells 55 bs' → wr.cell? ⟨w.heap.size, 0, none⟩ = some (.int .i64 r.k) ∧ wr.cell? ⟨w.heap.size, 1, none⟩ = some (.int .i64 r.f) ∧ wr.cell? ⟨w.heap.size, 2, none⟩ = some (.int .i64 r.t) ∧ wr.cell? ⟨w.heap.size, 3, none⟩ = some (.int .i64 r.a) ∧ wr.cell? ⟨w.heap.size, 4, none⟩ = some (.int .i64 r.n) ∧ wr.cell? ⟨w.heap.size, 5, none⟩ = some (.int .i64 r.i) ∧ wr.cell? ⟨w.heap.size, 6, none⟩ = some (.int .i64 r.d) ∧ wr.cell? ⟨w.heap.size, 7, none⟩ = some (.string r.h) ∧ wr.cell? ⟨w.heap.size, 8, none⟩ = some (.string r.s)) := Lib.hid (fun wr v' bs' h => ⟨blk_cell h.box 0, blk_cell h.box 1, blk_cell h.box 2, blk_cell h.box 3, blk_cell h.box 4, blk_cell h.box 5, blk_cell h.box 6, blk_cell h.box 7, blk_cell h.box 8⟩)
 clear h ho hlen hw1
 unfold EV.cells
 by_cases k1 : r.k = 1
 case pos =>
  obtain ⟨hch, hfit⟩ := putEvent_chunk1 r k1 HO.out
  have HCH := Lib.hid hch
  have HFIT := Lib.hid hfit
  clear hch hfit
  obtain ⟨Ff, Ft, Fa, Fn, FS⟩ := HFIT.out
  have HFf := Lib.hid Ff
  have HFt := Lib.hid Ft
  have HFa := Lib.hid Fa
  have HFn := Lib.hid Fn
  have HFS := Lib.hid FS
  have HK := Lib.hid k1
  clear Ff Ft Fa Fn FS
  have HFk : Hid (fitsB r.k 1 = true) := Lib.hid (by rw [HK.out]; decide)
  have e1 : (r.k == 1) = true := by simp [k1]
  have e2 : (r.k == 2) = false := by simp [k1]
  have g1 : ¬ (1 < r.k) := by omega
  have g2 : ¬ (2 < r.k) := by omega
  have g3 : (r.k < 3) := by omega
  clear k1
  go_enter Tryz.func53, Tryz.ntmps53
  go_upto_region 1 with fail
  rw [← HW1.out]
  obtain ⟨a0, a1, a2, a3, a4, a5, a6, a7, a8⟩ := HC.out _ _ _ HP0.out
  go_wp2_with fail
  refine (refnum_any p _ (bs) 0 r.k 1 _ HP0.out.enc (by have := HL.out; simp [putB_length, strNums_length]; omega)).mono ?_
  rintro en wn1 ⟨rfl, hp1⟩
  rw [refNum_ok1 _ _ HFk.out] at hp1
  obtain ⟨vn1, hq1⟩ := HP0.out.step hp1
  have HP1 := Lib.hid hq1
  clear a0 a1 a2 a3 a4 a5 a6 a7 a8
  clear hp1 hq1
  obtain ⟨a0, a1, a2, a3, a4, a5, a6, a7, a8⟩ := HC.out _ _ _ HP1.out
  go_wp2_with fail
  refine (refnum_any p _ (bs ++ putB r.k 1) 0 r.f 1 _ HP1.out.enc (by have := HL.out; simp [putB_length, strNums_length]; omega)).mono ?_
  rintro en wn2 ⟨rfl, hp2⟩
  rw [refNum_ok1 _ _ HFf.out] at hp2
  obtain ⟨vn2, hq2⟩ := HP1.out.step hp2
  have HP2 := Lib.hid hq2
  clear a0 a1 a2 a3 a4 a5 a6 a7 a8
  clear hp2 hq2
  obtain ⟨a0, a1, a2, a3, a4, a5, a6, a7, a8⟩ := HC.out _ _ _ HP2.out
  go_wp2_with fail
  refine (refnum_any p _ (bs ++ putB r.k 1 ++ putB r.f 1) 0 r.t 1 _ HP2.out.enc (by have := HL.out; simp [putB_length, strNums_length]; omega)).mono ?_
  rintro en wn3 ⟨rfl, hp3⟩
  rw [refNum_ok1 _ _ HFt.out] at hp3
  obtain ⟨vn3, hq3⟩ := HP2.out.step hp3
  have HP3 := Lib.hid hq3
  clear a0 a1 a2 a3 a4 a5 a6 a7 a8
  clear hp3 hq3
  obtain ⟨a0, a1, a2, a3, a4, a5, a6, a7, a8⟩ := HC.out _ _ _ HP3.out
  go_wp2_with fail
  refine (refnum_any p _ (bs ++ putB r.k 1 ++ putB r.f 1 ++ putB r.t 1) 0 r.a 1 _ HP3.out.enc (by have := HL.out; simp [putB_length, strNums_length]; omega)).mono ?_
  rintro en wn4 ⟨rfl, hp4⟩
  rw [refNum_ok1 _ _ HFa.out] at hp4
  obtain ⟨vn4, hq4⟩ := HP3.out.step hp4
  have HP4 := Lib.hid hq4
  clear a0 a1 a2 a3 a4 a5 a6 a7 a8
  clear hp4 hq4
  obtain ⟨a0, a1, a2, a3, a4, a5, a6, a7, a8⟩ := HC.out _ _ _ HP4.out
  go_wp2_with fail
  refine (refnum_any p _ (bs ++ putB r.k 1 ++ putB r.f 1 ++ putB r.t 1 ++ putB r.a 1) 0 r.n 8 _ HP4.out.enc (by have := HL.out; simp [putB_length, strNums_length]; omega)).mono ?_
  rintro en wn5 ⟨rfl, hp5⟩
  rw [refNum_ok8 _ _ HFn.out] at hp5
  obtain ⟨vn5, hq5⟩ := HP4.out.step hp5
  have HP5 := Lib.hid hq5
  clear a0 a1 a2 a3 a4 a5 a6 a7 a8
  clear hp5 hq5
  obtain ⟨a0, a1, a2, a3, a4, a5, a6, a7, a8⟩ := HC.out _ _ _ HP5.out
  go_wp2_with fail
  have HBW6 := Lib.hid (HP5.out.below (bytes_belowR _ 5 r.s))
  refine (raw_any p _ (bs ++ putB r.k 1 ++ putB r.f 1 ++ putB r.t 1 ++ putB r.a 1 ++ putB r.n 8) 0 _ HBW6.out.enc _ (strNums r.s) r.s.size _ (strNums_length _) (bytes_intsR _ _ _) (by have := HL.out; have hs0 : (⟨#[]⟩ : ByteArray).size = 0 := rfl; simp [putB_length, strNums_length, HFS.out]; omega)).mono ?_
  rintro en wn6 ⟨rfl, hp6⟩
  obtain ⟨vn6, hq6⟩ := HBW6.out.step hp6
  have HP6 := Lib.hid hq6
  clear a0 a1 a2 a3 a4 a5 a6 a7 a8
  clear hp6 hq6
  obtain ⟨a0, a1, a2, a3, a4, a5, a6, a7, a8⟩ := HC.out _ _ _ HP6.out
  go_wp2
  go_end0
  refine ⟨rfl, ?_⟩
  have hd := HOUT.out _ _ HP6.out.done
  rw [HFS.out, strNums_nil, List.append_nil] at hd
  rw [HCH.out]
  simpa [List.append_assoc] using hd
 by_cases k2 : r.k = 2
 case pos =>
  obtain ⟨hch, hfit⟩ := putEvent_chunk2 r k2 HO.out
  have HCH := Lib.hid hch
  have HFIT := Lib.hid hfit
  clear hch hfit
  obtain ⟨Ff, Ft, Fa, Fn, Fi, Fd, FS, FH⟩ := HFIT.out
  have HFf := Lib.hid Ff
  have HFt := Lib.hid Ft
  have HFa := Lib.hid Fa
  have HFn := Lib.hid Fn
  have HFi := Lib.hid Fi
  have HFd := Lib.hid Fd
  have HFS := Lib.hid FS
  have HFH := Lib.hid FH
  have HK := Lib.hid k2
  clear Ff Ft Fa Fn Fi Fd FS FH
  have HFk : Hid (fitsB r.k 1 = true) := Lib.hid (by rw [HK.out]; decide)
  have e1 : (r.k == 1) = false := by simp [k2]
  have e2 : (r.k == 2) = true := by simp [k2]
  have g1 : (1 < r.k) := by omega
  have g2 : ¬ (2 < r.k) := by omega
  have g3 : (r.k < 3) := by omega
  clear k1 k2
  go_enter Tryz.func53, Tryz.ntmps53
  go_upto_region 1 with fail
  rw [← HW1.out]
  obtain ⟨a0, a1, a2, a3, a4, a5, a6, a7, a8⟩ := HC.out _ _ _ HP0.out
  go_wp2_with fail
  refine (refnum_any p _ (bs) 0 r.k 1 _ HP0.out.enc (by have := HL.out; simp [putB_length, strNums_length, HFH.out]; omega)).mono ?_
  rintro en wn1 ⟨rfl, hp1⟩
  rw [refNum_ok1 _ _ HFk.out] at hp1
  obtain ⟨vn1, hq1⟩ := HP0.out.step hp1
  have HP1 := Lib.hid hq1
  clear a0 a1 a2 a3 a4 a5 a6 a7 a8
  clear hp1 hq1
  obtain ⟨a0, a1, a2, a3, a4, a5, a6, a7, a8⟩ := HC.out _ _ _ HP1.out
  go_wp2_with fail
  refine (refnum_any p _ (bs ++ putB r.k 1) 0 r.f 1 _ HP1.out.enc (by have := HL.out; simp [putB_length, strNums_length, HFH.out]; omega)).mono ?_
  rintro en wn2 ⟨rfl, hp2⟩
  rw [refNum_ok1 _ _ HFf.out] at hp2
  obtain ⟨vn2, hq2⟩ := HP1.out.step hp2
  have HP2 := Lib.hid hq2
  clear a0 a1 a2 a3 a4 a5 a6 a7 a8
  clear hp2 hq2
  obtain ⟨a0, a1, a2, a3, a4, a5, a6, a7, a8⟩ := HC.out _ _ _ HP2.out
  go_wp2_with fail
  refine (refnum_any p _ (bs ++ putB r.k 1 ++ putB r.f 1) 0 r.t 1 _ HP2.out.enc (by have := HL.out; simp [putB_length, strNums_length, HFH.out]; omega)).mono ?_
  rintro en wn3 ⟨rfl, hp3⟩
  rw [refNum_ok1 _ _ HFt.out] at hp3
  obtain ⟨vn3, hq3⟩ := HP2.out.step hp3
  have HP3 := Lib.hid hq3
  clear a0 a1 a2 a3 a4 a5 a6 a7 a8
  clear hp3 hq3
  obtain ⟨a0, a1, a2, a3, a4, a5, a6, a7, a8⟩ := HC.out _ _ _ HP3.out
  go_wp2_with fail
  refine (refnum_any p _ (bs ++ putB r.k 1 ++ putB r.f 1 ++ putB r.t 1) 0 r.a 1 _ HP3.out.enc (by have := HL.out; simp [putB_length, strNums_length, HFH.out]; omega)).mono ?_
  rintro en wn4 ⟨rfl, hp4⟩
  rw [refNum_ok1 _ _ HFa.out] at hp4
  obtain ⟨vn4, hq4⟩ := HP3.out.step hp4
  have HP4 := Lib.hid hq4
  clear a0 a1 a2 a3 a4 a5 a6 a7 a8
  clear hp4 hq4
  obtain ⟨a0, a1, a2, a3, a4, a5, a6, a7, a8⟩ := HC.out _ _ _ HP4.out
  go_wp2_with fail
  refine (refnum_any p _ (bs ++ putB r.k 1 ++ putB r.f 1 ++ putB r.t 1 ++ putB r.a 1) 0 r.n 8 _ HP4.out.enc (by have := HL.out; simp [putB_length, strNums_length, HFH.out]; omega)).mono ?_
  rintro en wn5 ⟨rfl, hp5⟩
  rw [refNum_ok8 _ _ HFn.out] at hp5
  obtain ⟨vn5, hq5⟩ := HP4.out.step hp5
  have HP5 := Lib.hid hq5
  clear a0 a1 a2 a3 a4 a5 a6 a7 a8
  clear hp5 hq5
  obtain ⟨a0, a1, a2, a3, a4, a5, a6, a7, a8⟩ := HC.out _ _ _ HP5.out
  go_wp2_with fail
  refine (refnum_any p _ (bs ++ putB r.k 1 ++ putB r.f 1 ++ putB r.t 1 ++ putB r.a 1 ++ putB r.n 8) 0 r.i 2 _ HP5.out.enc (by have := HL.out; simp [putB_length, strNums_length, HFH.out]; omega)).mono ?_
  rintro en wn6 ⟨rfl, hp6⟩
  rw [refNum_ok2 _ _ HFi.out] at hp6
  obtain ⟨vn6, hq6⟩ := HP5.out.step hp6
  have HP6 := Lib.hid hq6
  clear a0 a1 a2 a3 a4 a5 a6 a7 a8
  clear hp6 hq6
  obtain ⟨a0, a1, a2, a3, a4, a5, a6, a7, a8⟩ := HC.out _ _ _ HP6.out
  go_wp2_with fail
  have HBW7 := Lib.hid (HP6.out.below (bytes_belowR _ 5 r.h))
  refine (raw_any p _ (bs ++ putB r.k 1 ++ putB r.f 1 ++ putB r.t 1 ++ putB r.a 1 ++ putB r.n 8 ++ putB r.i 2) 0 _ HBW7.out.enc _ (strNums r.h) r.h.size _ (strNums_length _) (bytes_intsR _ _ _) (by have := HL.out; have hs0 : (⟨#[]⟩ : ByteArray).size = 0 := rfl; simp [putB_length, strNums_length, HFS.out, HFH.out]; omega)).mono ?_
  rintro en wn7 ⟨rfl, hp7⟩
  obtain ⟨vn7, hq7⟩ := HBW7.out.step hp7
  have HP7 := Lib.hid hq7
  clear a0 a1 a2 a3 a4 a5 a6 a7 a8
  clear hp7 hq7
  obtain ⟨a0, a1, a2, a3, a4, a5, a6, a7, a8⟩ := HC.out _ _ _ HP7.out
  go_wp2_with fail
  refine (refnum_any p _ (bs ++ putB r.k 1 ++ putB r.f 1 ++ putB r.t 1 ++ putB r.a 1 ++ putB r.n 8 ++ putB r.i 2 ++ strNums r.h) 0 r.d 8 _ HP7.out.enc (by have := HL.out; simp [putB_length, strNums_length, HFH.out]; omega)).mono ?_
  rintro en wn8 ⟨rfl, hp8⟩
  rw [refNum_ok8 _ _ HFd.out] at hp8
  obtain ⟨vn8, hq8⟩ := HP7.out.step hp8
  have HP8 := Lib.hid hq8
  clear a0 a1 a2 a3 a4 a5 a6 a7 a8
  clear hp8 hq8
  obtain ⟨a0, a1, a2, a3, a4, a5, a6, a7, a8⟩ := HC.out _ _ _ HP8.out
  go_wp2_with fail
  have HBW9 := Lib.hid (HP8.out.below (bytes_belowR _ 5 r.s))
  refine (raw_any p _ (bs ++ putB r.k 1 ++ putB r.f 1 ++ putB r.t 1 ++ putB r.a 1 ++ putB r.n 8 ++ putB r.i 2 ++ strNums r.h ++ putB r.d 8) 0 _ HBW9.out.enc _ (strNums r.s) r.s.size _ (strNums_length _) (bytes_intsR _ _ _) (by have := HL.out; have hs0 : (⟨#[]⟩ : ByteArray).size = 0 := rfl; simp [putB_length, strNums_length, HFS.out, HFH.out]; omega)).mono ?_
  rintro en wn9 ⟨rfl, hp9⟩
  obtain ⟨vn9, hq9⟩ := HBW9.out.step hp9
  have HP9 := Lib.hid hq9
  clear a0 a1 a2 a3 a4 a5 a6 a7 a8
  clear hp9 hq9
  obtain ⟨a0, a1, a2, a3, a4, a5, a6, a7, a8⟩ := HC.out _ _ _ HP9.out
  go_wp2
  go_end0
  refine ⟨rfl, ?_⟩
  have hd := HOUT.out _ _ HP9.out.done
  rw [HFS.out, strNums_nil, List.append_nil] at hd
  rw [HCH.out]
  simpa [List.append_assoc] using hd
 by_cases k3 : r.k = 3
 case pos =>
  obtain ⟨hch, hfit⟩ := putEvent_chunk3 r k3 HO.out
  have HCH := Lib.hid hch
  have HFIT := Lib.hid hfit
  clear hch hfit
  obtain ⟨Fi, FS⟩ := HFIT.out
  have HFi := Lib.hid Fi
  have HFS := Lib.hid FS
  have HK := Lib.hid k3
  clear Fi FS
  have HFk : Hid (fitsB r.k 1 = true) := Lib.hid (by rw [HK.out]; decide)
  have e1 : (r.k == 1) = false := by simp [k3]
  have e2 : (r.k == 2) = false := by simp [k3]
  have g1 : (1 < r.k) := by omega
  have g2 : (2 < r.k) := by omega
  have g3 : ¬ (r.k < 3) := by omega
  clear k1 k2 k3
  go_enter Tryz.func53, Tryz.ntmps53
  go_upto_region 1 with fail
  rw [← HW1.out]
  obtain ⟨a0, a1, a2, a3, a4, a5, a6, a7, a8⟩ := HC.out _ _ _ HP0.out
  go_wp2_with fail
  refine (refnum_any p _ (bs) 0 r.k 1 _ HP0.out.enc (by have := HL.out; simp [putB_length, strNums_length]; omega)).mono ?_
  rintro en wn1 ⟨rfl, hp1⟩
  rw [refNum_ok1 _ _ HFk.out] at hp1
  obtain ⟨vn1, hq1⟩ := HP0.out.step hp1
  have HP1 := Lib.hid hq1
  clear a0 a1 a2 a3 a4 a5 a6 a7 a8
  clear hp1 hq1
  obtain ⟨a0, a1, a2, a3, a4, a5, a6, a7, a8⟩ := HC.out _ _ _ HP1.out
  go_wp2_with fail
  refine (refnum_any p _ (bs ++ putB r.k 1) 0 r.i 2 _ HP1.out.enc (by have := HL.out; simp [putB_length, strNums_length]; omega)).mono ?_
  rintro en wn2 ⟨rfl, hp2⟩
  rw [refNum_ok2 _ _ HFi.out] at hp2
  obtain ⟨vn2, hq2⟩ := HP1.out.step hp2
  have HP2 := Lib.hid hq2
  clear a0 a1 a2 a3 a4 a5 a6 a7 a8
  clear hp2 hq2
  obtain ⟨a0, a1, a2, a3, a4, a5, a6, a7, a8⟩ := HC.out _ _ _ HP2.out
  go_wp2_with fail
  have HBW3 := Lib.hid (HP2.out.below (bytes_belowR _ 5 r.s))
  refine (raw_any p _ (bs ++ putB r.k 1 ++ putB r.i 2) 0 _ HBW3.out.enc _ (strNums r.s) r.s.size _ (strNums_length _) (bytes_intsR _ _ _) (by have := HL.out; have hs0 : (⟨#[]⟩ : ByteArray).size = 0 := rfl; simp [putB_length, strNums_length, HFS.out]; omega)).mono ?_
  rintro en wn3 ⟨rfl, hp3⟩
  obtain ⟨vn3, hq3⟩ := HBW3.out.step hp3
  have HP3 := Lib.hid hq3
  clear a0 a1 a2 a3 a4 a5 a6 a7 a8
  clear hp3 hq3
  obtain ⟨a0, a1, a2, a3, a4, a5, a6, a7, a8⟩ := HC.out _ _ _ HP3.out
  go_wp2
  go_end0
  refine ⟨rfl, ?_⟩
  have hd := HOUT.out _ _ HP3.out.done
  rw [HCH.out]
  simpa [List.append_assoc] using hd
 have k4 : r.k = 4 := by rcases HKK.out with h | h | h | h <;> first | exact absurd h k1 | exact absurd h k2 | exact absurd h k3 | exact h
 obtain ⟨hch, hfit⟩ := putEvent_chunk4 r k4 HO.out
 have HCH := Lib.hid hch
 have HFIT := Lib.hid hfit
 clear hch hfit
 obtain ⟨Fi, FS⟩ := HFIT.out
 have HFi := Lib.hid Fi
 have HFS := Lib.hid FS
 have HK := Lib.hid k4
 clear Fi FS
 have HFk : Hid (fitsB r.k 1 = true) := Lib.hid (by rw [HK.out]; decide)
 have e1 : (r.k == 1) = false := by simp [k4]
 have e2 : (r.k == 2) = false := by simp [k4]
 have g1 : (1 < r.k) := by omega
 have g2 : (2 < r.k) := by omega
 have g3 : ¬ (r.k < 3) := by omega
 clear k1 k2 k3 k4
 go_enter Tryz.func53, Tryz.ntmps53
 go_upto_region 1 with fail
 rw [← HW1.out]
 obtain ⟨a0, a1, a2, a3, a4, a5, a6, a7, a8⟩ := HC.out _ _ _ HP0.out
 go_wp2_with fail
 refine (refnum_any p _ (bs) 0 r.k 1 _ HP0.out.enc (by have := HL.out; simp [putB_length, strNums_length]; omega)).mono ?_
 rintro en wn1 ⟨rfl, hp1⟩
 rw [refNum_ok1 _ _ HFk.out] at hp1
 obtain ⟨vn1, hq1⟩ := HP0.out.step hp1
 have HP1 := Lib.hid hq1
 clear a0 a1 a2 a3 a4 a5 a6 a7 a8
 clear hp1 hq1
 obtain ⟨a0, a1, a2, a3, a4, a5, a6, a7, a8⟩ := HC.out _ _ _ HP1.out
 go_wp2_with fail
 refine (refnum_any p _ (bs ++ putB r.k 1) 0 r.i 2 _ HP1.out.enc (by have := HL.out; simp [putB_length, strNums_length]; omega)).mono ?_
 rintro en wn2 ⟨rfl, hp2⟩
 rw [refNum_ok2 _ _ HFi.out] at hp2
 obtain ⟨vn2, hq2⟩ := HP1.out.step hp2
 have HP2 := Lib.hid hq2
 clear a0 a1 a2 a3 a4 a5 a6 a7 a8
 clear hp2 hq2
 obtain ⟨a0, a1, a2, a3, a4, a5, a6, a7, a8⟩ := HC.out _ _ _ HP2.out
 go_wp2_with fail
 have HBW3 := Lib.hid (HP2.out.below (bytes_belowR _ 5 r.s))
 refine (raw_any p _ (bs ++ putB r.k 1 ++ putB r.i 2) 0 _ HBW3.out.enc _ (strNums r.s) r.s.size _ (strNums_length _) (bytes_intsR _ _ _) (by have := HL.out; have hs0 : (⟨#[]⟩ : ByteArray).size = 0 := rfl; simp [putB_length, strNums_length, HFS.out]; omega)).mono ?_
 rintro en wn3 ⟨rfl, hp3⟩
 obtain ⟨vn3, hq3⟩ := HBW3.out.step hp3
 have HP3 := Lib.hid hq3
 clear a0 a1 a2 a3 a4 a5 a6 a7 a8
 clear hp3 hq3
 obtain ⟨a0, a1, a2, a3, a4, a5, a6, a7, a8⟩ := HC.out _ _ _ HP3.out
 go_wp2
 go_end0
 refine ⟨rfl, ?_⟩
 have hd := HOUT.out _ _ HP3.out.done
 rw [HFS.out, strNums_nil, List.append_nil] at hd
 rw [HCH.out]
 simpa [List.append_assoc] using hd
theorem dN_put (n : Int) (s : Nat) (rest : List Int) (h : fitsB n s = true) : dN s (putB n s ++ rest, 0) = (n, (rest, 0)) := by
 unfold dN
 rw [decNum_put n s rest h]
theorem dN_put1 (n : Int) (rest : List Int) (h : fitsB n 1 = true) : dN 1 (putB n 1 ++ rest, 0) = (n, (rest, 0)) := dN_put n 1 rest h
theorem dN_put2 (n : Int) (rest : List Int) (h : fitsB n 2 = true) : dN 2 (putB n 2 ++ rest, 0) = (n, (rest, 0)) := dN_put n 2 rest h
theorem dN_put8 (n : Int) (rest : List Int) (h : fitsB n 8 = true) : dN 8 (putB n 8 ++ rest, 0) = (n, (rest, 0)) := dN_put n 8 rest h
theorem dR_put (h : ByteArray) (rest : List Int) (hs : h.size = 32) : dR (strNums h ++ rest, 0) = (strNums h, (rest, 0)) := by
 have hl : (strNums h).length = 32 := by rw [strNums_length, hs]
 unfold dR decRaw
 rw [if_pos rfl, if_neg (by rw [List.length_append, hl]; omega)]
 have e : (32 : Int).toNat = 32 := rfl
 rw [e, List.take_left' hl, List.drop_left' hl]
theorem str_nums (s : ByteArray) : strOfNums (strNums s) = s := by
 have h : bytesOf (strNums s) = strOfNums (strNums s) := by
  apply ByteArray.ext
  apply Array.ext'
  rw [strOfNums_data]
  simp [bytesOf]
 rw [← h]
 exact bytesOf_strNums s
theorem evGet_chunk (r : EV) (rest : List Int) (h : okE true r = true) : evxGet (chunkE true r ++ rest, 0) = (r, (rest, 0)) := by
 rcases okE_k true r h with hk | hk | hk | hk
 · have hk' : r.k = 1 := hk
   obtain ⟨e, f1, f2, f3, f4, f5⟩ := putEvent_chunk1 r hk' h
   have g := h
   unfold okE at g
   rw [hk] at g
   simp only [if_pos, reduceIte, Int.reduceEq, Bool.and_eq_true, decide_eq_true_eq, Bool.false_eq_true, emptyB_is] at g
   unfold evxGet evxA evxB evxC evxD
   rw [e]
   simp only [List.append_assoc]
   rw [dN_put _ 1 _ (by rw [hk']; decide)]
   simp [hk', dN_put1, dN_put2, dN_put8, f1, f2, f3, f4]
   obtain ⟨k, f, t, a, n, i, d, hh, s⟩ := r
   simp_all
   all_goals (have g2 := of_decide_eq_true g.1.2; omega)
 · have hk' : r.k = 2 := hk
   obtain ⟨e, f1, f2, f3, f4, f5, f6, f7, f8⟩ := putEvent_chunk2 r hk' h
   have g := h
   unfold okE at g
   rw [hk] at g
   simp only [if_pos, reduceIte, Int.reduceEq, Bool.and_eq_true, decide_eq_true_eq, Bool.false_eq_true, emptyB_is] at g
   unfold evxGet evxA evxB evxC evxD
   rw [e]
   simp only [List.append_assoc]
   rw [dN_put _ 1 _ (by rw [hk']; decide)]
   simp [hk', dN_put1, dN_put2, dN_put8, dR_put, str_nums, f1, f2, f3, f4, f5, f6, f7, f8]
   obtain ⟨k, f, t, a, n, i, d, hh, s⟩ := r
   simp_all
 · have hk' : r.k = 3 := hk
   obtain ⟨e, f1, f2⟩ := putEvent_chunk3 r hk' h
   have g := h
   unfold okE at g
   rw [hk] at g
   simp only [if_pos, reduceIte, Int.reduceEq, Bool.and_eq_true, decide_eq_true_eq, Bool.false_eq_true, emptyB_is] at g
   unfold evxGet evxA evxB evxC evxD
   rw [e]
   simp only [List.append_assoc]
   rw [dN_put _ 1 _ (by rw [hk']; decide)]
   simp [hk', dN_put1, dN_put2, dN_put8, dR_put, str_nums, f1, f2]
   obtain ⟨k, f, t, a, n, i, d, hh, s⟩ := r
   simp_all
 · have hk' : r.k = 4 := hk
   obtain ⟨e, f1, f2⟩ := putEvent_chunk4 r hk' h
   have g := h
   unfold okE at g
   rw [hk] at g
   simp only [if_pos, reduceIte, Int.reduceEq, Bool.and_eq_true, decide_eq_true_eq, Bool.false_eq_true, emptyB_is] at g
   unfold evxGet evxA evxB evxC evxD
   rw [e]
   simp only [List.append_assoc]
   rw [dN_put _ 1 _ (by rw [hk']; decide)]
   simp [hk', dN_put1, dN_put2, dN_put8, dR_put, str_nums, f1, f2]
   obtain ⟨k, f, t, a, n, i, d, hh, s⟩ := r
   simp_all
section
variable {n m : Nat} {E : Int} {T : Nat → Int} {s0 si : LS} {b : List Int} {i : Nat} {ck0 N : Int} {d : DS}
structure LdAt (n m : Nat) (E : Int) (T : Nat → Int) (s0 : LS) (b : List Int) (ck0 N : Int) (i : Nat) (d : DS) (si : LS) : Prop where
 play : ∃ ds, PlayL n m E ds s0 si
 len : si.es.length = i
 goes : ∀ s, Loads n m E T s0 b s → ck0 = s.ck ∧ N = (s.es.length : Int) ∧ i ≤ s.es.length ∧ d = ((s.es.drop i).flatMap chD, 0) ∧ ∃ c', PlayL n m E (s.es.drop i) si ⟨s.b, s.l, c', s.es⟩ ∧ c' ≤ s.ck
theorem LdAt.start (h0 : s0.es = []) : LdAt n m E T s0 b (dN 8 (b, 0)).1 (dN 2 (dN 8 (b, 0)).2).1 0 (dN 2 (dN 8 (b, 0)).2).2 s0 := by
 refine ⟨⟨[], rfl⟩, by rw [h0]; rfl, ?_⟩
 rintro s ⟨h1, h2, ⟨c', h3, h4⟩, h5⟩
 have hl := h1.len
 have e : b = putB s.ck 8 ++ (putB (s.es.length : Int) 2 ++ s.es.flatMap chD) := by rw [← h5]; unfold saveB headB; rw [List.append_assoc]
 have e1 : dN 8 (b, 0) = (s.ck, (putB (s.es.length : Int) 2 ++ s.es.flatMap chD, 0)) := by rw [e]; exact dN_put8 _ _ (fits_c h1.tick.1 h1.tick.2)
 have e2 : dN 2 (putB (s.es.length : Int) 2 ++ s.es.flatMap chD, 0) = ((s.es.length : Int), (s.es.flatMap chD, 0)) := dN_put2 _ _ (fits_len2 s.es.length (by omega))
 rw [e1]
 dsimp only
 rw [e2]
 exact ⟨rfl, rfl, Nat.zero_le _, by rw [List.drop_zero], c', by rw [List.drop_zero]; exact h3, h4⟩
theorem LdAt.next (h : LdAt n m E T s0 b ck0 N i d si) (hi : (i : Int) < N) {s : LS} (hs : Loads n m E T s0 b s) :
 ∃ x : DN, ∃ c', okE true x.e = true ∧ dN 1 d = (x.p, (dN 1 d).2) ∧ dN 8 (dN 1 d).2 = (x.c, (dN 8 (dN 1 d).2).2) ∧ evxGet (dN 8 (dN 1 d).2).2 = (x.e, ((s.es.drop (i + 1)).flatMap chD, 0)) ∧ si.ck ≤ x.c ∧ (applyF n m E si x.p x.c [rqOf x.e]).es = si.es ++ [x] ∧
  PlayL n m E (s.es.drop (i + 1)) (applyF n m E si x.p x.c [rqOf x.e]) ⟨s.b, s.l, c', s.es⟩ ∧ c' ≤ s.ck ∧ ck0 = s.ck ∧ N = (s.es.length : Int) ∧ i + 1 ≤ s.es.length := by
 obtain ⟨g1, g2, g3, g4, c', g5, g6⟩ := h.goes s hs
 have hil : i < s.es.length := by omega
 have hn16 := hs.inv.bi.good.n16
 rw [List.drop_eq_getElem_cons hil] at g4 g5
 have ho := hs.ok s.es[i] (List.getElem_mem hil)
 obtain ⟨o1, o2, o3, o4, o5⟩ := ho
 generalize s.es[i] = x at *
 rw [List.flatMap_cons] at g4
 have e0 : chD x ++ (s.es.drop (i + 1)).flatMap chD = putB x.p 1 ++ (putB x.c 8 ++ (chunkE true x.e ++ (s.es.drop (i + 1)).flatMap chD)) := by
  unfold chD hdD
  simp only [List.append_assoc]
 rw [e0] at g4
 have e1 := dN_put1 x.p (putB x.c 8 ++ (chunkE true x.e ++ (s.es.drop (i + 1)).flatMap chD)) (fits_p o2 (by omega))
 have e2 := dN_put8 x.c (chunkE true x.e ++ (s.es.drop (i + 1)).flatMap chD) (fits_c o4 o5)
 have e3 := evGet_chunk x.e ((s.es.drop (i + 1)).flatMap chD) o1
 rw [← g4] at e1
 refine ⟨x, c', o1, by rw [e1], by rw [e1]; dsimp only; rw [e2], by rw [e1]; dsimp only; rw [e2]; dsimp only; rw [e3], g5.1, g5.2.1, g5.2.2, g6, g1, g2, hil⟩
theorem LdAt.bad (h : LdAt n m E T s0 b ck0 N i d si) (hi : (i : Int) < N) (hb : (evxGet (dN 8 (dN 1 d).2).2).2.2 ≠ 0 ∨ okE true (evxGet (dN 8 (dN 1 d).2).2).1 = false ∨ (dN 8 (dN 1 d).2).1 < si.ck) : ∀ s, ¬ Loads n m E T s0 b s := fun s hs => by
 obtain ⟨x, c', a1, a2, a3, a4, a5, _⟩ := h.next hi hs
 rw [a4, a3] at hb
 dsimp only at hb
 rcases hb with hb | hb | hb
 · exact hb rfl
 · rw [a1] at hb; cases hb
 · omega
theorem tick_again {s : LS} {T : Nat → Int} (hI : LInv n m E s T) (c : Int) : tickF s (tickF s c).ck = tickF s c := by
 have h := (hI.ticks c).tick
 have ht := hI.tick
 by_cases hc : tickB c = true
 · have e : tickF s c = ⟨s.b, s.l, max s.ck c, s.es⟩ := by unfold tickF; rw [if_pos hc]
   rw [e] at h ⊢
   dsimp only at h ⊢
   unfold tickF
   rw [if_pos ((tick_iff _).2 h)]
   show (⟨s.b, s.l, max s.ck (max s.ck c), s.es⟩ : LS) = _
   rw [show max s.ck (max s.ck c) = max s.ck c by omega]
 · have e : tickF s c = s := by unfold tickF; rw [if_neg hc]
   rw [e]
   unfold tickF
   rw [if_pos ((tick_iff _).2 ht)]
   show (⟨s.b, s.l, max s.ck s.ck, s.es⟩ : LS) = _
   rw [show max s.ck s.ck = s.ck by omega]
theorem one_more {s : LS} {T : Nat → Int} (hI : LInv n m E s T) (p c : Int) (v : EV) (hc : s.ck ≤ c) (hl : (applyF n m E s p c [rqOf v]).es.length = s.es.length + 1) (he : (((applyF n m E s p c [rqOf v]).es.getD s.es.length default).e) = v) :
 ∃ x : DN, s.ck ≤ x.c ∧ (applyF n m E s x.p x.c [rqOf x.e]).es = s.es ++ [x] ∧ applyF n m E s x.p x.c [rqOf x.e] = applyF n m E s p c [rqOf v] := by
 rw [app_one] at hl he ⊢
 rw [stepF_es, tickF_es] at hl he
 by_cases h0 : (doesF n m E (tickF s c) p (rqOf v)).c = 0
 · rw [if_pos h0] at hl he
   obtain ⟨x, hx⟩ : ∃ x : DN, x = ⟨p, (tickF s c).ck, (doesF n m E (tickF s c) p (rqOf v)).e⟩ := ⟨_, rfl⟩
   have hv : x.e = v := by rw [hx]; rw [List.getD_eq_getElem?_getD, List.getElem?_append_right (Nat.le_refl _), Nat.sub_self] at he; exact he
   have e : applyF n m E s x.p x.c [rqOf x.e] = stepF n m E p (tickF s c) (rqOf v) := by
    rw [app_one, hv]
    have e1 : tickF s x.c = tickF s c := by rw [hx]; exact tick_again hI c
    rw [e1, hx]
   refine ⟨x, ?_, ?_, e⟩
   · rw [hx]
     dsimp only
     unfold tickF
     split
     · show s.ck ≤ max s.ck c; omega
     · exact Int.le_refl _
   · rw [e, stepF_es, if_pos h0, tickF_es, hx]
 · rw [if_neg h0] at hl
   simp at hl
theorem LdAt.inv (h : LdAt n m E T s0 b ck0 N i d si) (h0 : s0.es = []) (hI : LInv n m E s0 T) : LInv n m E si T ∧ LOk n si := by
 obtain ⟨ds, hp⟩ := h.play
 exact hp.inv hI (fun d hd => by rw [h0] at hd; simp at hd)
theorem LdAt.worse (h : LdAt n m E T s0 b ck0 N i d si) (hi : (i : Int) < N) {s2 : LS} (h2 : s2 = applyF n m E si (dN 1 d).1 (dN 8 (dN 1 d).2).1 [rqOf (evxGet (dN 8 (dN 1 d).2).2).1]) (hb : s2.es.length ≠ i + 1 ∨ (s2.es.getD i default).e ≠ (evxGet (dN 8 (dN 1 d).2).2).1) : ∀ s, ¬ Loads n m E T s0 b s := fun s hs => by
 obtain ⟨x, c', a1, a2, a3, a4, a5, a6, _⟩ := h.next hi hs
 have e1 : (dN 1 d).1 = x.p := by rw [a2]
 have e3 : (dN 8 (dN 1 d).2).1 = x.c := by rw [a3]
 have e4 : (evxGet (dN 8 (dN 1 d).2).2).1 = x.e := by rw [a4]
 rw [e4] at hb
 rw [e1, e3, e4] at h2
 rw [h2, a6] at hb
 rcases hb with hb | hb
 · rw [List.length_append, h.len] at hb; exact hb rfl
 · rw [← h.len] at hb
   refine hb ?_
   rw [List.getD_eq_getElem?_getD, List.getElem?_append_right (Nat.le_refl _), Nat.sub_self]
   rfl
theorem LdAt.step (h : LdAt n m E T s0 b ck0 N i d si) (h0 : s0.es = []) (hI : LInv n m E s0 T) (hi : (i : Int) < N) {s2 : LS} (h2 : s2 = applyF n m E si (dN 1 d).1 (dN 8 (dN 1 d).2).1 [rqOf (evxGet (dN 8 (dN 1 d).2).2).1]) (hc : ¬ (dN 8 (dN 1 d).2).1 < si.ck) (hl : s2.es.length = i + 1) (he : (s2.es.getD i default).e = (evxGet (dN 8 (dN 1 d).2).2).1) :
 LdAt n m E T s0 b ck0 N (i + 1) (evxGet (dN 8 (dN 1 d).2).2).2 s2 := by
 refine ⟨?_, hl, fun s hs => ?_⟩
 · obtain ⟨ds, hp⟩ := h.play
   rw [h2, ← h.len] at hl he
   obtain ⟨x, b1, b2, b3⟩ := one_more (h.inv h0 hI).1 _ _ _ (by omega) hl he
   have := hp.snoc b1 b2
   rw [b3, ← h2] at this
   exact ⟨_, this⟩
 · obtain ⟨x, c', a1, a2, a3, a4, a5, a6, a7, a8, a9, a10, a11⟩ := h.next hi hs
   have e1 : (dN 1 d).1 = x.p := by rw [a2]
   have e3 : (dN 8 (dN 1 d).2).1 = x.c := by rw [a3]
   have e4 : (evxGet (dN 8 (dN 1 d).2).2).1 = x.e := by rw [a4]
   rw [e1, e3, e4] at h2
   rw [← h2] at a7
   exact ⟨a9, a10, a11, by rw [a4], c', a7, a8⟩
theorem LdAt.none_ (h : LdAt n m E T s0 b ck0 N i d si) (hx : ¬ (i : Int) < N ∨ d.2 ≠ 0) (hb : d.1 ≠ [] ∨ d.2 ≠ 0 ∨ saveB (tickF si ck0) ≠ b) : ∀ s, ¬ Loads n m E T s0 b s := fun s hs => by
 obtain ⟨g1, g2, g3, g4, c', g5, g6⟩ := h.goes s hs
 have hd : d.2 = 0 := by rw [g4]
 rcases hx with hx | hx
 · have hil : i = s.es.length := by omega
   rw [hil, List.drop_length] at g4 g5
   rcases hb with hb | hb | hb
   · exact hb (by rw [g4]; rfl)
   · exact hb hd
   · have e : si = ⟨s.b, s.l, c', s.es⟩ := g5
     rw [e, g1, tick_to hs.inv g6] at hb
     exact hb hs.save
 · exact hx hd
theorem LdAt.some_ (h : LdAt n m E T s0 b ck0 N i d si) (h0 : s0.es = []) (hI : LInv n m E s0 T) (hb : saveB (tickF si ck0) = b) : Loads n m E T s0 b (tickF si ck0) := by
 obtain ⟨ds, hp⟩ := h.play
 exact play_tick h0 hI hp _ b hb
end
set_option maxHeartbeats 1000000 in
theorem ref9_is (p n m : Nat) (S : Nat → Prop) (b : Nat → Nat → Int) (w : World) (h : PAt 159 w p S n m b) (a j : Int) :
 Calls Tryz.prog 112 #[.pointer (some ⟨p, 0, none⟩), .int .i64 a, .int .i64 j] w fun e w' => e = .returned (.bool (hasB n m a j)) ∧ w = w' := by
 obtain ⟨L, lcap, G, C, hl, _, _⟩ := h
 have c0 := hl.cell0
 have c1 := hl.cell1 (i := 0) hl.pos
 have hp := hl.pos
 clear hl
 go_enter Tryz.func112, Tryz.ntmps112
 go_wp2
 all_goals
  go_ret
  exact ⟨ret_bool (by unfold hasB; first | (rw [decide_eq_decide]; omega) | (symm; rw [decide_eq_false_iff_not]; omega) | (symm; rw [decide_eq_true_iff]; omega)), rfl⟩
set_option maxHeartbeats 1000000 in
theorem ref9_has (p n m : Nat) (S : Nat → Prop) (b : Nat → Nat → Int) (w : World) (h : PAt 159 w p S n m b) (a j : Int) :
 Calls Tryz.prog 133 #[.pointer (some ⟨p, 0, none⟩), .int .i64 a, .int .i64 j] w fun e w' => e = .returned (.int .i64 (getB n m b a j)) ∧ w = w' := by
 have H := Lib.hid h
 by_cases hh : hasB n m a j = true
 · obtain ⟨h1, h2, h3, h4⟩ := hasB_iff.1 hh
   obtain ⟨i, rfl⟩ := Int.eq_ofNat_of_zero_le h1
   obtain ⟨k, rfl⟩ := Int.eq_ofNat_of_zero_le h3
   obtain ⟨L, lcap, G, C, hl, _, _⟩ := h
   have c0 := hl.cell0
   have c1 := hl.cell1 (i := i) (by omega)
   have c2 := (hl.cell2 (i := i) (j := k) (by omega) (by omega)).1
   have HR := Lib.hid (show b i k = getB n m b i k by simp [getB, hh])
   clear hl
   go_enter Tryz.func133, Tryz.ntmps133
   go_wp2_with (go_at_call 112; refine (ref9_is p n m S b _ H.out _ _).mono ?_; rintro e w' ⟨rfl, rfl⟩)
   go_ret
   exact ⟨ret_int HR.out, rfl⟩
 · simp at hh
   have HR := Lib.hid (show 0 = getB n m b a j by simp [getB, hh])
   clear h
   go_enter Tryz.func133, Tryz.ntmps133
   go_wp2_with (go_at_call 112; refine (ref9_is p n m S b _ H.out _ _).mono ?_; rintro e w' ⟨rfl, rfl⟩)
   go_ret
   exact ⟨ret_int HR.out, rfl⟩
set_option maxHeartbeats 1000000 in
theorem ref9_total (p n m : Nat) (S : Nat → Prop) (b : Nat → Nat → Int) (w : World) (h : PAt 159 w p S n m b) (hg : Good n m b) (j : Int) :
 Calls Tryz.prog 125 #[.pointer (some ⟨p, 0, none⟩), .int .i64 j] w fun e w' => e = .returned (.int .i64 (totB n m b j)) ∧ w = w' := by
 have H := Lib.hid h
 have HG := Lib.hid hg
 have c0 : ∃ L lcap, w.cell? ⟨p, 0, none⟩ = some (.slice (some ⟨L, 0, none⟩) n lcap) := by obtain ⟨L, lcap, G, C, hl, _, _⟩ := h; exact ⟨L, lcap, hl.cell0⟩
 obtain ⟨L, lcap, c0⟩ := c0
 have h16 := hg.n16
 clear h hg
 go_enter Tryz.func125, Tryz.ntmps125
 go_wp2_with fail
 go_loop [5, 6] (fun t i => ∃ k : Nat, k ≤ n ∧ i = .int .i64 (k : Int) ∧ t = .int .i64 (partB m b j k)) (fun _ i => n + 1 - (intOf i + 1).toNat)
 case atStart => exact ⟨0, Nat.zero_le _, rfl, by simp [partB, tot]⟩
 case round =>
  obtain ⟨k, hk, rfl, rfl⟩ := hrel
  by_cases hlt : k < n
  · have HS := Lib.hid (part_succ (m := m) (b := b) j hlt)
    have h1 := HG.out.part j (k := k + 1) (by omega)
    have h2 := HG.out.part j hk
    rw [HS.out] at h1
    obtain ⟨h11, h12⟩ := h1
    obtain ⟨h21, h22⟩ := h2
    go_wp2_with (go_at_call 133; refine (ref9_has p n m S b _ H.out _ _).mono ?_; rintro e w' ⟨rfl, rfl⟩)
    go_round
    case rel => exact ⟨k + 1, by omega, by go_num, by rw [HS.out]⟩
    case measure => simp [intOf]; omega
  · obtain rfl : k = n := by omega
    have HT := Lib.hid (show partB m b j k = totB k m b j from rfl)
    clear hlt
    go_wp2
    go_ret
    exact ⟨ret_int HT.out, rfl⟩
set_option maxHeartbeats 1000000 in
theorem ref9_give (p n m : Nat) (S : Nat → Prop) (b : Nat → Nat → Int) (w : World) (h : PAt 159 w p S n m b) (hg : Good n m b) (a j x : Int) :
 Calls Tryz.prog 115 #[.pointer (some ⟨p, 0, none⟩), .int .i64 a, .int .i64 j, .int .i64 x] w fun e w' => e = .returned (.int .i64 (giveE n m b a j x)) ∧ PPost 159 w p S n m (giveN n m b a j x) w' := by
 have H := Lib.hid h
 have HG := Lib.hid hg
 by_cases hh : hasB n m a j = true
 · obtain ⟨h1, h2, h3, h4⟩ := hasB_iff.1 hh
   obtain ⟨i, rfl⟩ := Int.eq_ofNat_of_zero_le h1
   obtain ⟨k, rfl⟩ := Int.eq_ofNat_of_zero_le h3
   obtain ⟨t1, t2⟩ := hg.part (k : Int) (Nat.le_refl n)
   by_cases hok : addOK (totB n m b k) x = true
   · have HE := Lib.hid (show giveE n m b i k x = 0 by simp [giveE, giveOK, hh, hok])
     have HN := Lib.hid (show giveN n m b i k x = upd b i k (b i k + x) by simp [giveN, giveOK, hh, hok])
     have HA := Lib.hid (addVE _ _ hok)
     obtain ⟨_, _, _, _, h5, h6⟩ := give_ok (show giveOK n m b i k x = true by simp [giveOK, hh, hok])
     simp only [Int.toNat_natCast] at h6
     obtain ⟨b1, b2, b3⟩ := hg.cell (a := i) (j := k) (by omega) (by omega)
     have HT := Lib.hid (show totB n m b k = tot b k n by simp [totB, partB, h4])
     have ham : amtB x = true := (amt_iff x).2 ⟨h5, by unfold MA; omega⟩
     obtain ⟨L, lcap, G, C, hl, hs, hlt⟩ := h
     have c0 := hl.cell0
     have c1 := hl.cell1 (i := i) (by omega)
     obtain ⟨c2, f2⟩ := hl.cell2 (i := i) (j := k) (by omega) (by omega)
     have HP := Lib.hid (PAt.set hl hs hlt (i := i) (j := k) (by omega) (by omega) (b i k + x))
     generalize tot b k n = t at *
     generalize b i k = v at *
     have hw : v + x ≤ 4611686018427387904 := by omega
     have hw2 : x ≤ 4611686018427387904 - t := by omega
     clear hl hok hs hlt hg
     go_enter Tryz.func115, Tryz.ntmps115
     go_wp2_with (first | (go_at_call 112; refine (ref9_is p n m S b _ H.out _ _).mono ?_; rintro e w' ⟨rfl, rfl⟩) | (go_at_call 125; refine (ref9_total p n m S b _ H.out HG.out _).mono ?_; rintro e w' ⟨rfl, rfl⟩; rw [HT.out]) | (go_at_call 78; refine (ramount_any _ _).mono ?_; rintro e w' ⟨rfl, rfl⟩))
     go_ret
     exact ⟨ret_int HE.out.symm, by rw [HN.out]; exact HP.out⟩
   · simp at hok
     have HE := Lib.hid (show giveE n m b i k x = 1 by simp [giveE, giveOK, hok])
     have HN := Lib.hid (show giveN n m b i k x = b by simp [giveN, giveOK, hok])
     have HA := Lib.hid (addVE' _ _ hok)
     have HX := Lib.hid (show amtB x = true → 4611686018427387904 - totB n m b k < x from fun hx => by
      simp only [addOK, bothB, Bool.and_eq_false_imp, Bool.and_eq_true] at hok
      have := hok ⟨(amt_iff _).2 ⟨t1, t2⟩, hx⟩
      rw [← Bool.not_eq_true, amt_iff] at this
      rw [amt_iff] at hx
      unfold MA at *; unfold totB at *; omega)
     clear h hok hg
     have t3 : 0 ≤ totB n m b k := t1
     have t4 : totB n m b k ≤ 4611686018427387904 := t2
     by_cases hx : amtB x = true
     · have hlt := HX.out hx
       go_enter Tryz.func115, Tryz.ntmps115
       go_wp2_with (first | (go_at_call 112; refine (ref9_is p n m S b _ H.out _ _).mono ?_; rintro e w' ⟨rfl, rfl⟩) | (go_at_call 125; refine (ref9_total p n m S b _ H.out HG.out _).mono ?_; rintro e w' ⟨rfl, rfl⟩) | (go_at_call 78; refine (ramount_any _ _).mono ?_; rintro e w' ⟨rfl, rfl⟩))
       go_ret
       exact ⟨ret_int HE.out.symm, by rw [HN.out]; exact ⟨H.out, Keeps.refl _ _⟩⟩
     · simp at hx
       go_enter Tryz.func115, Tryz.ntmps115
       go_wp2_with (first | (go_at_call 112; refine (ref9_is p n m S b _ H.out _ _).mono ?_; rintro e w' ⟨rfl, rfl⟩) | (go_at_call 125; refine (ref9_total p n m S b _ H.out HG.out _).mono ?_; rintro e w' ⟨rfl, rfl⟩) | (go_at_call 78; refine (ramount_any _ _).mono ?_; rintro e w' ⟨rfl, rfl⟩))
       go_ret
       exact ⟨ret_int HE.out.symm, by rw [HN.out]; exact ⟨H.out, Keeps.refl _ _⟩⟩
 · simp at hh
   have HE := Lib.hid (show giveE n m b a j x = 1 by simp [giveE, giveOK, hh])
   have HN := Lib.hid (show giveN n m b a j x = b by simp [giveN, giveOK, hh])
   clear h hg
   go_enter Tryz.func115, Tryz.ntmps115
   go_wp2_with (go_at_call 112; refine (ref9_is p n m S b _ H.out _ _).mono ?_; rintro e w' ⟨rfl, rfl⟩)
   go_ret
   exact ⟨ret_int HE.out.symm, by rw [HN.out]; exact ⟨H.out, Keeps.refl _ _⟩⟩
set_option maxHeartbeats 1000000 in
theorem ref9_take (p n m : Nat) (S : Nat → Prop) (b : Nat → Nat → Int) (w : World) (h : PAt 159 w p S n m b) (hg : Good n m b) (a j x : Int) :
 Calls Tryz.prog 113 #[.pointer (some ⟨p, 0, none⟩), .int .i64 a, .int .i64 j, .int .i64 x] w fun e w' => e = .returned (.int .i64 (takeE n m b a j x)) ∧ PPost 159 w p S n m (takeN n m b a j x) w' := by
 have H := Lib.hid h
 by_cases hh : hasB n m a j = true
 · obtain ⟨h1, h2, h3, h4⟩ := hasB_iff.1 hh
   obtain ⟨i, rfl⟩ := Int.eq_ofNat_of_zero_le h1
   obtain ⟨k, rfl⟩ := Int.eq_ofNat_of_zero_le h3
   by_cases ha : amtB x = true
   · have ha' := (amt_iff x).1 ha
     unfold MA at ha'
     obtain ⟨a1, a2⟩ := ha'
     obtain ⟨b1, b2, b3⟩ := hg.cell (a := i) (j := k) (by omega) (by omega)
     obtain ⟨L, lcap, G, C, hl, hs, hlt⟩ := h
     have c0 := hl.cell0
     have c1 := hl.cell1 (i := i) (by omega)
     obtain ⟨c2, f2⟩ := hl.cell2 (i := i) (j := k) (by omega) (by omega)
     have HP := Lib.hid (PAt.set hl hs hlt (i := i) (j := k) (by omega) (by omega) (b i k - x))
     by_cases hv : b i k < x
     · have HE := Lib.hid (show takeE n m b i k x = 7 by simp [takeE, hh, ha, hv])
       have HN := Lib.hid (show takeN n m b i k x = b by rw [takeN, HE.out]; rfl)
       generalize b i k = v at *
       clear hl hs hlt hg
       go_enter Tryz.func113, Tryz.ntmps113
       go_wp2_with (first | (go_at_call 112; refine (ref9_is p n m S b _ H.out _ _).mono ?_; rintro e w' ⟨rfl, rfl⟩) | (go_at_call 78; refine (ramount_any _ _).mono ?_; rintro e w' ⟨rfl, rfl⟩))
       go_ret
       exact ⟨ret_int HE.out.symm, by rw [HN.out]; exact ⟨H.out, Keeps.refl _ _⟩⟩
     · have HE := Lib.hid (show takeE n m b i k x = 0 by simp [takeE, hh, ha, hv])
       have HN := Lib.hid (show takeN n m b i k x = upd b i k (b i k - x) by rw [takeN, HE.out]; simp)
       generalize b i k = v at *
       clear hl hs hlt hg
       go_enter Tryz.func113, Tryz.ntmps113
       go_wp2_with (first | (go_at_call 112; refine (ref9_is p n m S b _ H.out _ _).mono ?_; rintro e w' ⟨rfl, rfl⟩) | (go_at_call 78; refine (ramount_any _ _).mono ?_; rintro e w' ⟨rfl, rfl⟩))
       go_ret
       exact ⟨ret_int HE.out.symm, by rw [HN.out]; exact HP.out⟩
   · simp at ha
     have HE := Lib.hid (show takeE n m b i k x = 1 by simp [takeE, ha])
     have HN := Lib.hid (show takeN n m b i k x = b by rw [takeN, HE.out]; rfl)
     clear h hg
     go_enter Tryz.func113, Tryz.ntmps113
     go_wp2_with (first | (go_at_call 112; refine (ref9_is p n m S b _ H.out _ _).mono ?_; rintro e w' ⟨rfl, rfl⟩) | (go_at_call 78; refine (ramount_any _ _).mono ?_; rintro e w' ⟨rfl, rfl⟩))
     go_ret
     exact ⟨ret_int HE.out.symm, by rw [HN.out]; exact ⟨H.out, Keeps.refl _ _⟩⟩
 · simp at hh
   have HE := Lib.hid (show takeE n m b a j x = 1 by simp [takeE, hh])
   have HN := Lib.hid (show takeN n m b a j x = b by rw [takeN, HE.out]; rfl)
   clear h hg
   go_enter Tryz.func113, Tryz.ntmps113
   go_wp2_with (first | (go_at_call 112; refine (ref9_is p n m S b _ H.out _ _).mono ?_; rintro e w' ⟨rfl, rfl⟩) | (go_at_call 78; refine (ramount_any _ _).mono ?_; rintro e w' ⟨rfl, rfl⟩))
   go_ret
   exact ⟨ret_int HE.out.symm, by rw [HN.out]; exact ⟨H.out, Keeps.refl _ _⟩⟩
set_option maxRecDepth 100000 in
set_option maxHeartbeats 2000000 in
theorem ref9_move (p n m : Nat) (S : Nat → Prop) (b : Nat → Nat → Int) (w : World) (h : PAt 159 w p S n m b) (hg : Good n m b) (f t j x : Int) :
 Calls Tryz.prog 87 #[.pointer (some ⟨p, 0, none⟩), .int .i64 f, .int .i64 t, .int .i64 j, .int .i64 x] w fun e w' => e = .returned (.int .i64 (moveE n m b f t j x)) ∧ PPost 159 w p S n m (moveN n m b f t j x) w' := by
 have H := Lib.hid h
 by_cases hh : (hasB n m f j && hasB n m t j && amtB x) = true
 · have hh' := hh
   rw [Bool.and_eq_true, Bool.and_eq_true] at hh'
   obtain ⟨⟨hf, ht⟩, ha⟩ := hh'
   obtain ⟨h1, h2, h3, h4⟩ := hasB_iff.1 hf
   obtain ⟨h5, h6, _, _⟩ := hasB_iff.1 ht
   obtain ⟨i, rfl⟩ := Int.eq_ofNat_of_zero_le h1
   obtain ⟨k, rfl⟩ := Int.eq_ofNat_of_zero_le h3
   obtain ⟨q, rfl⟩ := Int.eq_ofNat_of_zero_le h5
   have ha' := (amt_iff x).1 ha
   unfold MA at ha'
   obtain ⟨a1, a2⟩ := ha'
   by_cases hft : i = q
   · subst hft
     have HE := Lib.hid (show moveE n m b i i k x = 14 by simp [moveE, hf, ha])
     have HN := Lib.hid (show moveN n m b i i k x = b by rw [moveN, HE.out]; rfl)
     clear h hg
     go_enter Tryz.func87, Tryz.ntmps87
     go_wp2_with (first | (go_at_call 112; refine (ref9_is p n m S b _ H.out _ _).mono ?_; rintro e w' ⟨rfl, rfl⟩) | (go_at_call 78; refine (ramount_any _ _).mono ?_; rintro e w' ⟨rfl, rfl⟩))
     go_ret
     exact ⟨ret_int HE.out.symm, by rw [HN.out]; exact ⟨H.out, Keeps.refl _ _⟩⟩
   · have hft1 : ((i : Int) == (q : Int)) = false := by simp; omega
     obtain ⟨b1, b2, b3⟩ := hg.cell (a := i) (j := k) (by omega) (by omega)
     obtain ⟨d1, d2, _⟩ := hg.cell (a := q) (j := k) (by omega) (by omega)
     obtain ⟨L, lcap, G, C, hl, hs, hlt⟩ := h
     have c0 := hl.cell0
     have c1 := hl.cell1 (i := i) (by omega)
     obtain ⟨c2, f2⟩ := hl.cell2 (i := i) (j := k) (by omega) (by omega)
     by_cases hv : b i k < x
     · have HE := Lib.hid (show moveE n m b i q k x = 7 by rw [moveE, if_pos hh, if_neg (by omega), if_pos (by simpa using hv)])
       have HN := Lib.hid (show moveN n m b i q k x = b by rw [moveN, HE.out]; rfl)
       generalize b i k = v at *
       clear hl hs hlt hg
       go_enter Tryz.func87, Tryz.ntmps87
       go_wp2_with (first | (go_at_call 112; refine (ref9_is p n m S b _ H.out _ _).mono ?_; rintro e w' ⟨rfl, rfl⟩) | (go_at_call 78; refine (ramount_any _ _).mono ?_; rintro e w' ⟨rfl, rfl⟩))
       go_ret
       exact ⟨ret_int HE.out.symm, by rw [HN.out]; exact ⟨H.out, Keeps.refl _ _⟩⟩
     · have HE := Lib.hid (show moveE n m b i q k x = 0 by rw [moveE, if_pos hh, if_neg (by omega), if_neg (by simpa using hv)])
       have HN := Lib.hid (show moveN n m b i q k x = upd (upd b i k (b i k - x)) q k (b q k + x) by rw [moveN, HE.out]; simp)
       have hl2 := hl.set (i := i) (j := k) (by omega) (by omega) (b i k - x)
       have k0 := hl2.cell0
       have k1 := hl2.cell1 (i := q) (by omega)
       obtain ⟨k2, g2⟩ := hl2.cell2 (i := q) (j := k) (by omega) (by omega)
       rw [upd_row (Or.inl (fun e => hft e.symm))] at k2
       obtain ⟨hp1, hk1⟩ := PAt.set hl hs hlt (i := i) (j := k) (by omega) (by omega) (b i k - x)
       have hp2 := PAt.set hl2 hs (fun k hk => by simpa [World.setCell] using hlt k hk) (i := q) (j := k) (by omega) (by omega) (b q k + x)
       have HP := Lib.hid (show PPost 159 w p S n m _ _ from ⟨hp2.1, hk1.trans hp2.2 (fun _ h => Or.inl h)⟩)
       have h2b := hg.two (a := i) (c := q) (j := k) (by omega) (by omega) (by omega) hft
       have hw : b q k + x ≤ 9223372036854775807 := by omega
       clear h2b
       have hne : G i ≠ G q := fun e => hft (hl.apart.2.2 i (by omega) q (by omega) e)
       generalize b i k = v at *
       generalize b q k = u at *
       clear hl hl2 hs hlt hg hp1 hk1 hp2
       go_enter Tryz.func87, Tryz.ntmps87
       go_wp2_with (first | (go_at_call 112; refine (ref9_is p n m S b _ H.out _ _).mono ?_; rintro e w' ⟨rfl, rfl⟩) | (go_at_call 78; refine (ramount_any _ _).mono ?_; rintro e w' ⟨rfl, rfl⟩))
       go_ret
       exact ⟨ret_int HE.out.symm, by rw [HN.out]; exact HP.out⟩
 · have HE := Lib.hid (show moveE n m b f t j x = 1 by simp [moveE, hh])
   have HN := Lib.hid (show moveN n m b f t j x = b by rw [moveN, HE.out]; rfl)
   have hc : hasB n m f j = false ∨ (hasB n m f j = true ∧ hasB n m t j = false) ∨ (hasB n m f j = true ∧ hasB n m t j = true ∧ amtB x = false) := by
    cases h1 : hasB n m f j <;> cases h2 : hasB n m t j <;> cases h3 : amtB x <;> simp_all
   clear h hg hh
   rcases hc with h1 | ⟨h1, h2⟩ | ⟨h1, h2, h3⟩
   all_goals
    go_enter Tryz.func87, Tryz.ntmps87
    go_wp2_with (first | (go_at_call 112; refine (ref9_is p n m S b _ H.out _ _).mono ?_; rintro e w' ⟨rfl, rfl⟩) | (go_at_call 78; refine (ramount_any _ _).mono ?_; rintro e w' ⟨rfl, rfl⟩))
    go_ret
    exact ⟨ret_int HE.out.symm, by rw [HN.out]; exact ⟨H.out, Keeps.refl _ _⟩⟩
structure XK (w : World) (Sp : Nat → Prop) (B q n m : Nat) (b : Nat → Nat → Int) (l : List XR) (v : Value) : Prop where
 box : w.heap[B]? = some (.cells #[.pointer (some ⟨q, 0, none⟩), v] 127 (0, 0))
 row : w.ownsRow 0 57 8 v l.length (l.flatMap XR.list)
 pu : PAt 159 w q Sp n m b
 nB : ¬ Sp B
 nv : ∀ g, v.ownBlock = some g → ¬ Sp g
def fpX (Sp : Nat → Prop) (B : Nat) (v : Value) (k : Nat) : Prop := k = B ∨ v.ownBlock = some k ∨ Sp k
def XPost (w : World) (Sp : Nat → Prop) (B q n m : Nat) (v : Value) (b : Nat → Nat → Int) (l : List XR) (w' : World) : Prop :=
 ∃ v', XK w' Sp B q n m b l v' ∧ Keeps (fpX Sp B v) w w' ∧ ∀ g, v'.ownBlock = some g → v.ownBlock = some g ∨ w.heap.size ≤ g
section
variable {w w' : World} {Sp : Nat → Prop} {B q n m : Nat} {b b' : Nat → Nat → Int} {l l' : List XR} {v : Value}
theorem XK.vB (h : XK w Sp B q n m b l v) : ∀ g, v.ownBlock = some g → g ≠ B := fun g hg => by
 obtain ⟨cur, h1⟩ := row_ty h.row hg
 exact TyAt.ne ⟨_, _, h.box⟩ h1 (by decide)
theorem XK.lt (h : XK w Sp B q n m b l v) : ∀ k, fpX Sp B v k → k < w.heap.size := by
 rintro k (rfl | hk | hk)
 · exact blk_lt h.box
 · exact (h.row.lt k hk).2
 · obtain ⟨_, _, _, _, _, _, h3⟩ := h.pu; exact h3 k hk
theorem XK.keep {S : Nat → Prop} (h : XK w Sp B q n m b l v) (hk : Keeps S w w') (hs : ∀ k, fpX Sp B v k → ¬ S k) : XK w' Sp B q n m b l v :=
 ⟨(hk.block B (blk_lt h.box) (hs B (Or.inl rfl))).trans h.box, ownsRow_same h.row (fun g hg => hk.block g (h.row.lt g hg).2 (hs g (Or.inr (Or.inl hg)))), h.pu.keep hk (fun k hk => hs k (Or.inr (Or.inr hk))), h.nB, h.nv⟩
theorem XK.below (h : XK w Sp B q n m b l v) (hb : Below w.heap.size w w') : XK w' Sp B q n m b l v := h.keep (Keeps.of_below (S := fun _ => False) hb) (fun _ _ f => f)
theorem XK.cells (h : XK w Sp B q n m b l v) : w.cell? ⟨B, 0, none⟩ = some (.pointer (some ⟨q, 0, none⟩)) ∧ w.cell? ⟨B, 1, none⟩ = some v ∧ w.frozen? ⟨B, 1, none⟩ = false := ⟨blk_cell h.box 0, blk_cell h.box 1, blk_frozen h.box 1⟩
theorem XK.shape (h : XK w Sp B q n m b l v) : ∃ ao c, v = .slice ao l.length c ∧ l.length ≤ c ∧ c ≤ maxLen := own_shape h.row
theorem XPost.refl (h : XK w Sp B q n m b l v) (hb : Below w.heap.size w w') : XPost w Sp B q n m v b l w' := ⟨v, h.below hb, Keeps.of_below hb, fun g hg => Or.inl hg⟩
theorem XK.esc {ao : Option Addr} {c : Nat} (h : XK w Sp B q n m b l (.slice ao l.length c)) (i : Nat) (hi : i < l.length) : ∃ g, ao = some ⟨g, 0, none⟩ ∧ (∀ j, j < 8 → w.cell? ⟨g, i * 8 + j, none⟩ = l[i].cells[j]?) ∧ ∀ j, w.frozen? ⟨g, j, none⟩ = false := by
 obtain ⟨g, rfl, hc⟩ := own_cell h.row (by omega)
 obtain ⟨cur, h1⟩ := row_ty h.row rfl
 refine ⟨g, rfl, fun j hj => ?_, fun j => blk_frozen h1 j⟩
 have hf := flat_get XR.list 8 (fun _ => rfl) l i hi j hj
 have hx : (l[i].list)[j]? = l[i].cells[j]? := Array.getElem?_toList
 rw [hx] at hf
 obtain ⟨u, hu⟩ : ∃ u, l[i].cells[j]? = some u := ⟨_, Array.getElem?_eq_getElem (show j < l[i].cells.size from hj)⟩
 rw [hu] at hf ⊢
 exact hc _ u hf
end
section
variable {w : World} {Sp : Nat → Prop} {B q n m : Nat} {b : Nat → Nat → Int} {l : List XR} {v : Value} {T : Nat → Int}
set_option maxRecDepth 100000 in
set_option maxHeartbeats 2000000 in
theorem xbook_open (h : XK w Sp B q n m b l v) (hl : l.length ≤ 100000) :
 Calls Tryz.prog 111 #[.pointer (some ⟨B, 0, none⟩)] w fun e w' => e = .returned (.int .i64 (openX l : Int)) ∧ w = w' := by
 obtain ⟨ao, c, rfl, _, _⟩ := h.shape
 obtain ⟨_, c1, _⟩ := h.cells
 have H := Lib.hid h
 obtain ⟨ln, hln⟩ : ∃ ln, ln = l.length := ⟨_, rfl⟩
 have HL : Hid (l.length = ln ∧ ln ≤ 100000) := Lib.hid ⟨hln.symm, by omega⟩
 rw [← hln] at c1
 clear h hl hln
 go_enter Tryz.func111, Tryz.ntmps111
 go_wp2_with fail
 go_loop [3, 4] (fun s i => ∃ k : Nat, k ≤ ln ∧ i = .int .i64 (k : Int) ∧ s = .int .i64 (openX (l.take k) : Int)) (fun _ i => ln - (intOf i).toNat)
 case atStart => exact ⟨0, by omega, rfl, rfl⟩
 case round =>
  obtain ⟨k, hk, rfl, rfl⟩ := hrel
  by_cases hlt : k < ln
  · have i0 : (0 : Int) ≤ (k : Int) := by omega
    have i1 : (k : Int) < (ln : Int) := by omega
    have hkl : k < l.length := by rw [HL.out.1]; exact hlt
    have HKL : Hid (k < ln) := Lib.hid hlt
    have HSU := Lib.hid (openX_succ l k hkl)
    have HOL := Lib.hid (openX_le l k)
    obtain ⟨g, rfl, hc, _⟩ := H.out.esc k hkl
    generalize l[k] = x at *
    have e5 := hc 5 (by omega)
    simp only [XR.cells, lq, Nat.add_zero] at e5
    obtain ⟨s, hs⟩ : ∃ s, s = openX (l.take k) := ⟨_, rfl⟩
    rw [← hs] at HSU HOL
    rw [← hs]
    clear hc hs hk hlt
    have HML : Hid (ln - (k + 1) < ln - k) := Lib.hid (by have := HKL.out; omega)
    have s0 : (s : Int) ≤ 100000 := by have := HL.out; have := HOL.out; omega
    have k9 : (ln : Int) ≤ 100000 := by have := HL.out; omega
    by_cases hx : x.s = 0
    · have hb : (x.s == (0 : Int)) = true := by simp [hx]
      have HS2 : Hid (openX (l.take (k + 1)) = s + 1) := Lib.hid (by rw [HSU.out, if_pos hx])
      clear hx
      go_wp2
      go_round
      case rel => exact ⟨k + 1, HKL.out, by go_num, by rw [HS2.out]; go_num⟩
      case measure => simpa [intOf] using HML.out
    · have hb : (x.s == (0 : Int)) = false := by simp [hx]
      have HS2 : Hid (openX (l.take (k + 1)) = s) := Lib.hid (by rw [HSU.out, if_neg hx]; rfl)
      clear hx
      go_wp2
      go_round
      case rel => exact ⟨k + 1, HKL.out, by go_num, by rw [HS2.out]⟩
      case measure => simpa [intOf] using HML.out
  · obtain rfl : k = ln := by omega
    have HT := Lib.hid (show l.take k = l from List.take_of_length_le (by rw [HL.out.1]; exact Nat.le_refl _))
    clear hlt hk
    go_wp2
    go_ret
    rw [HT.out]
    exact ⟨rfl, rfl⟩
end
end Go.Proofs.YtkaciaehlibidaaGreat
