/- Contract of cflref9.PutEvent. -/
import Derived.Test.YtadejcpifabpoaaRefq
namespace Go.Proofs.Ytadejcpifabpoaa
open Go.RowKit
set_option linter.unusedVariables false
set_option linter.unusedSimpArgs false

theorem putEvent_chunk1 (r : EV) (hk : r.k = 1) (ho : okE true r = true) : chunkE true r = putB r.k 1 ++ (putB r.f 1) ++ (putB r.t 1) ++ (putB r.a 1) ++ (putB r.n 8) ∧ fitsB r.f 1 = true ∧ fitsB r.t 1 = true ∧ fitsB r.a 1 = true ∧ fitsB r.n 8 = true ∧ r.s = ⟨#[]⟩ := by
  have e0 : r.k = 1 := hk
  unfold okE at ho
  rw [e0] at ho
  simp only [if_pos, if_neg, reduceIte, Int.reduceEq, Bool.and_eq_true, decide_eq_true_eq, Bool.false_eq_true] at ho
  refine ⟨?_, ?_⟩
  · unfold chunkE
    rw [e0]
    try rw [hk]
    simp [hasN, partE, numSign, txtSign, EV.num, EV.txt]
  · simp only [emptyB_is] at ho
    simp only [ho, and_self, true_and, and_true]
theorem putEvent_chunk2 (r : EV) (hk : r.k = 2) (ho : okE true r = true) : chunkE true r = putB r.k 1 ++ (putB r.f 1) ++ (putB r.t 1) ++ (putB r.a 1) ++ (putB r.n 8) ++ (putB r.i 2) ++ (strNums r.h) ++ (putB r.d 8) ∧ fitsB r.f 1 = true ∧ fitsB r.t 1 = true ∧ fitsB r.a 1 = true ∧ fitsB r.n 8 = true ∧ fitsB r.i 2 = true ∧ fitsB r.d 8 = true ∧ r.s = ⟨#[]⟩ ∧ r.h.size = 32 := by
  have e0 : r.k = 2 := hk
  unfold okE at ho
  rw [e0] at ho
  simp only [if_pos, if_neg, reduceIte, Int.reduceEq, Bool.and_eq_true, decide_eq_true_eq, Bool.false_eq_true] at ho
  refine ⟨?_, ?_⟩
  · unfold chunkE
    rw [e0]
    try rw [hk]
    simp [hasN, partE, numSign, txtSign, EV.num, EV.txt]
  · simp only [emptyB_is] at ho
    simp only [ho, and_self, true_and, and_true]
theorem putEvent_chunk3 (r : EV) (hk : r.k = 3) (ho : okE true r = true) : chunkE true r = putB r.k 1 ++ (putB r.i 2) ++ (strNums r.s) ∧ fitsB r.i 2 = true ∧ r.s.size = 32 := by
  have e0 : r.k = 3 := hk
  unfold okE at ho
  rw [e0] at ho
  simp only [if_pos, if_neg, reduceIte, Int.reduceEq, Bool.and_eq_true, decide_eq_true_eq, Bool.false_eq_true] at ho
  refine ⟨?_, ?_⟩
  · unfold chunkE
    rw [e0]
    try rw [hk]
    simp [hasN, partE, numSign, txtSign, EV.num, EV.txt]
  · simp only [emptyB_is] at ho
    simp only [ho, and_self, true_and, and_true]
theorem putEvent_chunk4 (r : EV) (hk : r.k = 4) (ho : okE true r = true) : chunkE true r = putB r.k 1 ++ (putB r.i 2) ∧ fitsB r.i 2 = true ∧ r.s = ⟨#[]⟩ := by
  have e0 : r.k = 4 := hk
  unfold okE at ho
  rw [e0] at ho
  simp only [if_pos, if_neg, reduceIte, Int.reduceEq, Bool.and_eq_true, decide_eq_true_eq, Bool.false_eq_true] at ho
  refine ⟨?_, ?_⟩
  · unfold chunkE
    rw [e0]
    try rw [hk]
    simp [hasN, partE, numSign, txtSign, EV.num, EV.txt]
  · simp only [emptyB_is] at ho
    simp only [ho, and_self, true_and, and_true]

set_option maxRecDepth 100000 in
set_option maxHeartbeats 4000000 in
theorem putEvent (p : Nat) (v : Value) (bs : List Int) (r : EV) (w : World) (h : EncAt 105 w p v bs 0) (ho : okE true r = true) (hlen : bs.length + 100 ≤ 140737488355328) :
    Calls Try.prog 79 #[.pointer (some ⟨p, 0, none⟩), .agg r.cells] w fun en w' => en = .returned (.tuple #[]) ∧ EncPost 105 w p v (bs ++ chunkE true r) 0 w' := by
  obtain ⟨w1, hw1⟩ : ∃ w1, w1 = w.alloc (.cells r.cells 84) := ⟨_, rfl⟩
  have HP0 : Hid (Putting w1 w1 p v v w.heap.size r.cells 84 bs) := Lib.hid (by subst hw1; exact Putting.start h r.cells 84)
  have HOUT : Hid (∀ bs' w', EncPost 105 w1 p v bs' 0 w' → EncPost 105 w p v bs' 0 w') := Lib.hid (fun bs' w' hp => by subst hw1; exact put_out hp)
  have kc := fun (w : World) (s : ByteArray) => Lib.run_convert_string_bytes (P := Try.prog) w 9 41 5 s Try.underlying9 Try.underlying41 Try.underlying5
  have HKK : Hid (r.k = 1 ∨ r.k = 2 ∨ r.k = 3 ∨ r.k = 4) := Lib.hid (okE_k true r ho)
  have HO := Lib.hid ho
  have HL := Lib.hid hlen
  unfold EV.cells at hw1
  have HW1 := Lib.hid hw1
  have HC : Hid (∀ wr v' bs', Putting w1 wr p v v' w.heap.size r.cells 84 bs' → wr.cell? ⟨w.heap.size, 0, none⟩ = some (.int .i64 r.k) ∧ wr.cell? ⟨w.heap.size, 1, none⟩ = some (.int .i64 r.f) ∧ wr.cell? ⟨w.heap.size, 2, none⟩ = some (.int .i64 r.t) ∧ wr.cell? ⟨w.heap.size, 3, none⟩ = some (.int .i64 r.a) ∧ wr.cell? ⟨w.heap.size, 4, none⟩ = some (.int .i64 r.n) ∧ wr.cell? ⟨w.heap.size, 5, none⟩ = some (.int .i64 r.i) ∧ wr.cell? ⟨w.heap.size, 6, none⟩ = some (.int .i64 r.d) ∧ wr.cell? ⟨w.heap.size, 7, none⟩ = some (.string r.h) ∧ wr.cell? ⟨w.heap.size, 8, none⟩ = some (.string r.s)) := Lib.hid (fun wr v' bs' h => ⟨blk_cell h.box 0, blk_cell h.box 1, blk_cell h.box 2, blk_cell h.box 3, blk_cell h.box 4, blk_cell h.box 5, blk_cell h.box 6, blk_cell h.box 7, blk_cell h.box 8⟩)
  clear h ho hlen hw1
  unfold EV.cells
  by_cases k1 : r.k = 1
  case pos =>
    obtain ⟨hch, hfit⟩ := putEvent_chunk1 r k1 HO.out
    have HCH := Lib.hid hch
    have HFIT := Lib.hid hfit
    clear hch hfit
    obtain ⟨Ff, Ft, Fa, Fn, FS⟩ := HFIT.out
    have HFf := Lib.hid Ff
    have HFt := Lib.hid Ft
    have HFa := Lib.hid Fa
    have HFn := Lib.hid Fn
    have HFS := Lib.hid FS
    have HK := Lib.hid k1
    clear Ff Ft Fa Fn FS
    have HFk : Hid (fitsB r.k 1 = true) := Lib.hid (by rw [HK.out]; decide)
    have e1 : (r.k == 1) = true := by simp [k1]
    have e2 : (r.k == 2) = false := by simp [k1]
    have g1 : ¬ (1 < r.k) := by omega
    have g2 : ¬ (2 < r.k) := by omega
    have g3 : (r.k < 3) := by omega
    clear k1
    go_enter Try.func79, Try.ntmps79
    go_upto_region 1 with fail
    rw [← HW1.out]
    obtain ⟨a0, a1, a2, a3, a4, a5, a6, a7, a8⟩ := HC.out _ _ _ HP0.out
    go_wp2_with fail
    refine (refnum_any p _ (bs) 0 r.k 1 _ HP0.out.enc (by have := HL.out; simp [putB_length, strNums_length]; omega)).mono ?_
    rintro en wn1 ⟨rfl, hp1⟩
    rw [refNum_ok1 _ _ HFk.out] at hp1
    obtain ⟨vn1, hq1⟩ := HP0.out.step hp1
    have HP1 := Lib.hid hq1
    clear a0 a1 a2 a3 a4 a5 a6 a7 a8
    clear hp1 hq1
    obtain ⟨a0, a1, a2, a3, a4, a5, a6, a7, a8⟩ := HC.out _ _ _ HP1.out
    go_wp2_with fail
    refine (refnum_any p _ (bs ++ putB r.k 1) 0 r.f 1 _ HP1.out.enc (by have := HL.out; simp [putB_length, strNums_length]; omega)).mono ?_
    rintro en wn2 ⟨rfl, hp2⟩
    rw [refNum_ok1 _ _ HFf.out] at hp2
    obtain ⟨vn2, hq2⟩ := HP1.out.step hp2
    have HP2 := Lib.hid hq2
    clear a0 a1 a2 a3 a4 a5 a6 a7 a8
    clear hp2 hq2
    obtain ⟨a0, a1, a2, a3, a4, a5, a6, a7, a8⟩ := HC.out _ _ _ HP2.out
    go_wp2_with fail
    refine (refnum_any p _ (bs ++ putB r.k 1 ++ putB r.f 1) 0 r.t 1 _ HP2.out.enc (by have := HL.out; simp [putB_length, strNums_length]; omega)).mono ?_
    rintro en wn3 ⟨rfl, hp3⟩
    rw [refNum_ok1 _ _ HFt.out] at hp3
    obtain ⟨vn3, hq3⟩ := HP2.out.step hp3
    have HP3 := Lib.hid hq3
    clear a0 a1 a2 a3 a4 a5 a6 a7 a8
    clear hp3 hq3
    obtain ⟨a0, a1, a2, a3, a4, a5, a6, a7, a8⟩ := HC.out _ _ _ HP3.out
    go_wp2_with fail
    refine (refnum_any p _ (bs ++ putB r.k 1 ++ putB r.f 1 ++ putB r.t 1) 0 r.a 1 _ HP3.out.enc (by have := HL.out; simp [putB_length, strNums_length]; omega)).mono ?_
    rintro en wn4 ⟨rfl, hp4⟩
    rw [refNum_ok1 _ _ HFa.out] at hp4
    obtain ⟨vn4, hq4⟩ := HP3.out.step hp4
    have HP4 := Lib.hid hq4
    clear a0 a1 a2 a3 a4 a5 a6 a7 a8
    clear hp4 hq4
    obtain ⟨a0, a1, a2, a3, a4, a5, a6, a7, a8⟩ := HC.out _ _ _ HP4.out
    go_wp2_with fail
    refine (refnum_any p _ (bs ++ putB r.k 1 ++ putB r.f 1 ++ putB r.t 1 ++ putB r.a 1) 0 r.n 8 _ HP4.out.enc (by have := HL.out; simp [putB_length, strNums_length]; omega)).mono ?_
    rintro en wn5 ⟨rfl, hp5⟩
    rw [refNum_ok8 _ _ HFn.out] at hp5
    obtain ⟨vn5, hq5⟩ := HP4.out.step hp5
    have HP5 := Lib.hid hq5
    clear a0 a1 a2 a3 a4 a5 a6 a7 a8
    clear hp5 hq5
    obtain ⟨a0, a1, a2, a3, a4, a5, a6, a7, a8⟩ := HC.out _ _ _ HP5.out
    go_wp2_with fail
    have HBW6 := Lib.hid (HP5.out.below (bytes_below _ 5 r.s))
    refine (raw_any p _ (bs ++ putB r.k 1 ++ putB r.f 1 ++ putB r.t 1 ++ putB r.a 1 ++ putB r.n 8) 0 _ HBW6.out.enc _ (strNums r.s) r.s.size _ (strNums_length _) (bytes_ints _ _ _) (by have := HL.out; have hs0 : (⟨#[]⟩ : ByteArray).size = 0 := rfl; simp [putB_length, strNums_length, HFS.out]; omega)).mono ?_
    rintro en wn6 ⟨rfl, hp6⟩
    obtain ⟨vn6, hq6⟩ := HBW6.out.step hp6
    have HP6 := Lib.hid hq6
    clear a0 a1 a2 a3 a4 a5 a6 a7 a8
    clear hp6 hq6
    obtain ⟨a0, a1, a2, a3, a4, a5, a6, a7, a8⟩ := HC.out _ _ _ HP6.out
    go_wp2
    go_end0
    refine ⟨rfl, ?_⟩
    have hd := HOUT.out _ _ HP6.out.done
    rw [HFS.out, strNums_nil, List.append_nil] at hd
    rw [HCH.out]
    simpa [List.append_assoc] using hd
  by_cases k2 : r.k = 2
  case pos =>
    obtain ⟨hch, hfit⟩ := putEvent_chunk2 r k2 HO.out
    have HCH := Lib.hid hch
    have HFIT := Lib.hid hfit
    clear hch hfit
    obtain ⟨Ff, Ft, Fa, Fn, Fi, Fd, FS, FH⟩ := HFIT.out
    have HFf := Lib.hid Ff
    have HFt := Lib.hid Ft
    have HFa := Lib.hid Fa
    have HFn := Lib.hid Fn
    have HFi := Lib.hid Fi
    have HFd := Lib.hid Fd
    have HFS := Lib.hid FS
    have HFH := Lib.hid FH
    have HK := Lib.hid k2
    clear Ff Ft Fa Fn Fi Fd FS FH
    have HFk : Hid (fitsB r.k 1 = true) := Lib.hid (by rw [HK.out]; decide)
    have e1 : (r.k == 1) = false := by simp [k2]
    have e2 : (r.k == 2) = true := by simp [k2]
    have g1 : (1 < r.k) := by omega
    have g2 : ¬ (2 < r.k) := by omega
    have g3 : (r.k < 3) := by omega
    clear k1 k2
    go_enter Try.func79, Try.ntmps79
    go_upto_region 1 with fail
    rw [← HW1.out]
    obtain ⟨a0, a1, a2, a3, a4, a5, a6, a7, a8⟩ := HC.out _ _ _ HP0.out
    go_wp2_with fail
    refine (refnum_any p _ (bs) 0 r.k 1 _ HP0.out.enc (by have := HL.out; simp [putB_length, strNums_length, HFH.out]; omega)).mono ?_
    rintro en wn1 ⟨rfl, hp1⟩
    rw [refNum_ok1 _ _ HFk.out] at hp1
    obtain ⟨vn1, hq1⟩ := HP0.out.step hp1
    have HP1 := Lib.hid hq1
    clear a0 a1 a2 a3 a4 a5 a6 a7 a8
    clear hp1 hq1
    obtain ⟨a0, a1, a2, a3, a4, a5, a6, a7, a8⟩ := HC.out _ _ _ HP1.out
    go_wp2_with fail
    refine (refnum_any p _ (bs ++ putB r.k 1) 0 r.f 1 _ HP1.out.enc (by have := HL.out; simp [putB_length, strNums_length, HFH.out]; omega)).mono ?_
    rintro en wn2 ⟨rfl, hp2⟩
    rw [refNum_ok1 _ _ HFf.out] at hp2
    obtain ⟨vn2, hq2⟩ := HP1.out.step hp2
    have HP2 := Lib.hid hq2
    clear a0 a1 a2 a3 a4 a5 a6 a7 a8
    clear hp2 hq2
    obtain ⟨a0, a1, a2, a3, a4, a5, a6, a7, a8⟩ := HC.out _ _ _ HP2.out
    go_wp2_with fail
    refine (refnum_any p _ (bs ++ putB r.k 1 ++ putB r.f 1) 0 r.t 1 _ HP2.out.enc (by have := HL.out; simp [putB_length, strNums_length, HFH.out]; omega)).mono ?_
    rintro en wn3 ⟨rfl, hp3⟩
    rw [refNum_ok1 _ _ HFt.out] at hp3
    obtain ⟨vn3, hq3⟩ := HP2.out.step hp3
    have HP3 := Lib.hid hq3
    clear a0 a1 a2 a3 a4 a5 a6 a7 a8
    clear hp3 hq3
    obtain ⟨a0, a1, a2, a3, a4, a5, a6, a7, a8⟩ := HC.out _ _ _ HP3.out
    go_wp2_with fail
    refine (refnum_any p _ (bs ++ putB r.k 1 ++ putB r.f 1 ++ putB r.t 1) 0 r.a 1 _ HP3.out.enc (by have := HL.out; simp [putB_length, strNums_length, HFH.out]; omega)).mono ?_
    rintro en wn4 ⟨rfl, hp4⟩
    rw [refNum_ok1 _ _ HFa.out] at hp4
    obtain ⟨vn4, hq4⟩ := HP3.out.step hp4
    have HP4 := Lib.hid hq4
    clear a0 a1 a2 a3 a4 a5 a6 a7 a8
    clear hp4 hq4
    obtain ⟨a0, a1, a2, a3, a4, a5, a6, a7, a8⟩ := HC.out _ _ _ HP4.out
    go_wp2_with fail
    refine (refnum_any p _ (bs ++ putB r.k 1 ++ putB r.f 1 ++ putB r.t 1 ++ putB r.a 1) 0 r.n 8 _ HP4.out.enc (by have := HL.out; simp [putB_length, strNums_length, HFH.out]; omega)).mono ?_
    rintro en wn5 ⟨rfl, hp5⟩
    rw [refNum_ok8 _ _ HFn.out] at hp5
    obtain ⟨vn5, hq5⟩ := HP4.out.step hp5
    have HP5 := Lib.hid hq5
    clear a0 a1 a2 a3 a4 a5 a6 a7 a8
    clear hp5 hq5
    obtain ⟨a0, a1, a2, a3, a4, a5, a6, a7, a8⟩ := HC.out _ _ _ HP5.out
    go_wp2_with fail
    refine (refnum_any p _ (bs ++ putB r.k 1 ++ putB r.f 1 ++ putB r.t 1 ++ putB r.a 1 ++ putB r.n 8) 0 r.i 2 _ HP5.out.enc (by have := HL.out; simp [putB_length, strNums_length, HFH.out]; omega)).mono ?_
    rintro en wn6 ⟨rfl, hp6⟩
    rw [refNum_ok2 _ _ HFi.out] at hp6
    obtain ⟨vn6, hq6⟩ := HP5.out.step hp6
    have HP6 := Lib.hid hq6
    clear a0 a1 a2 a3 a4 a5 a6 a7 a8
    clear hp6 hq6
    obtain ⟨a0, a1, a2, a3, a4, a5, a6, a7, a8⟩ := HC.out _ _ _ HP6.out
    go_wp2_with fail
    have HBW7 := Lib.hid (HP6.out.below (bytes_below _ 5 r.h))
    refine (raw_any p _ (bs ++ putB r.k 1 ++ putB r.f 1 ++ putB r.t 1 ++ putB r.a 1 ++ putB r.n 8 ++ putB r.i 2) 0 _ HBW7.out.enc _ (strNums r.h) r.h.size _ (strNums_length _) (bytes_ints _ _ _) (by have := HL.out; have hs0 : (⟨#[]⟩ : ByteArray).size = 0 := rfl; simp [putB_length, strNums_length, HFS.out, HFH.out]; omega)).mono ?_
    rintro en wn7 ⟨rfl, hp7⟩
    obtain ⟨vn7, hq7⟩ := HBW7.out.step hp7
    have HP7 := Lib.hid hq7
    clear a0 a1 a2 a3 a4 a5 a6 a7 a8
    clear hp7 hq7
    obtain ⟨a0, a1, a2, a3, a4, a5, a6, a7, a8⟩ := HC.out _ _ _ HP7.out
    go_wp2_with fail
    refine (refnum_any p _ (bs ++ putB r.k 1 ++ putB r.f 1 ++ putB r.t 1 ++ putB r.a 1 ++ putB r.n 8 ++ putB r.i 2 ++ strNums r.h) 0 r.d 8 _ HP7.out.enc (by have := HL.out; simp [putB_length, strNums_length, HFH.out]; omega)).mono ?_
    rintro en wn8 ⟨rfl, hp8⟩
    rw [refNum_ok8 _ _ HFd.out] at hp8
    obtain ⟨vn8, hq8⟩ := HP7.out.step hp8
    have HP8 := Lib.hid hq8
    clear a0 a1 a2 a3 a4 a5 a6 a7 a8
    clear hp8 hq8
    obtain ⟨a0, a1, a2, a3, a4, a5, a6, a7, a8⟩ := HC.out _ _ _ HP8.out
    go_wp2_with fail
    have HBW9 := Lib.hid (HP8.out.below (bytes_below _ 5 r.s))
    refine (raw_any p _ (bs ++ putB r.k 1 ++ putB r.f 1 ++ putB r.t 1 ++ putB r.a 1 ++ putB r.n 8 ++ putB r.i 2 ++ strNums r.h ++ putB r.d 8) 0 _ HBW9.out.enc _ (strNums r.s) r.s.size _ (strNums_length _) (bytes_ints _ _ _) (by have := HL.out; have hs0 : (⟨#[]⟩ : ByteArray).size = 0 := rfl; simp [putB_length, strNums_length, HFS.out, HFH.out]; omega)).mono ?_
    rintro en wn9 ⟨rfl, hp9⟩
    obtain ⟨vn9, hq9⟩ := HBW9.out.step hp9
    have HP9 := Lib.hid hq9
    clear a0 a1 a2 a3 a4 a5 a6 a7 a8
    clear hp9 hq9
    obtain ⟨a0, a1, a2, a3, a4, a5, a6, a7, a8⟩ := HC.out _ _ _ HP9.out
    go_wp2
    go_end0
    refine ⟨rfl, ?_⟩
    have hd := HOUT.out _ _ HP9.out.done
    rw [HFS.out, strNums_nil, List.append_nil] at hd
    rw [HCH.out]
    simpa [List.append_assoc] using hd
  by_cases k3 : r.k = 3
  case pos =>
    obtain ⟨hch, hfit⟩ := putEvent_chunk3 r k3 HO.out
    have HCH := Lib.hid hch
    have HFIT := Lib.hid hfit
    clear hch hfit
    obtain ⟨Fi, FS⟩ := HFIT.out
    have HFi := Lib.hid Fi
    have HFS := Lib.hid FS
    have HK := Lib.hid k3
    clear Fi FS
    have HFk : Hid (fitsB r.k 1 = true) := Lib.hid (by rw [HK.out]; decide)
    have e1 : (r.k == 1) = false := by simp [k3]
    have e2 : (r.k == 2) = false := by simp [k3]
    have g1 : (1 < r.k) := by omega
    have g2 : (2 < r.k) := by omega
    have g3 : ¬ (r.k < 3) := by omega
    clear k1 k2 k3
    go_enter Try.func79, Try.ntmps79
    go_upto_region 1 with fail
    rw [← HW1.out]
    obtain ⟨a0, a1, a2, a3, a4, a5, a6, a7, a8⟩ := HC.out _ _ _ HP0.out
    go_wp2_with fail
    refine (refnum_any p _ (bs) 0 r.k 1 _ HP0.out.enc (by have := HL.out; simp [putB_length, strNums_length]; omega)).mono ?_
    rintro en wn1 ⟨rfl, hp1⟩
    rw [refNum_ok1 _ _ HFk.out] at hp1
    obtain ⟨vn1, hq1⟩ := HP0.out.step hp1
    have HP1 := Lib.hid hq1
    clear a0 a1 a2 a3 a4 a5 a6 a7 a8
    clear hp1 hq1
    obtain ⟨a0, a1, a2, a3, a4, a5, a6, a7, a8⟩ := HC.out _ _ _ HP1.out
    go_wp2_with fail
    refine (refnum_any p _ (bs ++ putB r.k 1) 0 r.i 2 _ HP1.out.enc (by have := HL.out; simp [putB_length, strNums_length]; omega)).mono ?_
    rintro en wn2 ⟨rfl, hp2⟩
    rw [refNum_ok2 _ _ HFi.out] at hp2
    obtain ⟨vn2, hq2⟩ := HP1.out.step hp2
    have HP2 := Lib.hid hq2
    clear a0 a1 a2 a3 a4 a5 a6 a7 a8
    clear hp2 hq2
    obtain ⟨a0, a1, a2, a3, a4, a5, a6, a7, a8⟩ := HC.out _ _ _ HP2.out
    go_wp2_with fail
    have HBW3 := Lib.hid (HP2.out.below (bytes_below _ 5 r.s))
    refine (raw_any p _ (bs ++ putB r.k 1 ++ putB r.i 2) 0 _ HBW3.out.enc _ (strNums r.s) r.s.size _ (strNums_length _) (bytes_ints _ _ _) (by have := HL.out; have hs0 : (⟨#[]⟩ : ByteArray).size = 0 := rfl; simp [putB_length, strNums_length, HFS.out]; omega)).mono ?_
    rintro en wn3 ⟨rfl, hp3⟩
    obtain ⟨vn3, hq3⟩ := HBW3.out.step hp3
    have HP3 := Lib.hid hq3
    clear a0 a1 a2 a3 a4 a5 a6 a7 a8
    clear hp3 hq3
    obtain ⟨a0, a1, a2, a3, a4, a5, a6, a7, a8⟩ := HC.out _ _ _ HP3.out
    go_wp2
    go_end0
    refine ⟨rfl, ?_⟩
    have hd := HOUT.out _ _ HP3.out.done
    rw [HCH.out]
    simpa [List.append_assoc] using hd
  have k4 : r.k = 4 := by rcases HKK.out with h | h | h | h <;> first | exact absurd h k1 | exact absurd h k2 | exact absurd h k3 | exact h
  obtain ⟨hch, hfit⟩ := putEvent_chunk4 r k4 HO.out
  have HCH := Lib.hid hch
  have HFIT := Lib.hid hfit
  clear hch hfit
  obtain ⟨Fi, FS⟩ := HFIT.out
  have HFi := Lib.hid Fi
  have HFS := Lib.hid FS
  have HK := Lib.hid k4
  clear Fi FS
  have HFk : Hid (fitsB r.k 1 = true) := Lib.hid (by rw [HK.out]; decide)
  have e1 : (r.k == 1) = false := by simp [k4]
  have e2 : (r.k == 2) = false := by simp [k4]
  have g1 : (1 < r.k) := by omega
  have g2 : (2 < r.k) := by omega
  have g3 : ¬ (r.k < 3) := by omega
  clear k1 k2 k3 k4
  go_enter Try.func79, Try.ntmps79
  go_upto_region 1 with fail
  rw [← HW1.out]
  obtain ⟨a0, a1, a2, a3, a4, a5, a6, a7, a8⟩ := HC.out _ _ _ HP0.out
  go_wp2_with fail
  refine (refnum_any p _ (bs) 0 r.k 1 _ HP0.out.enc (by have := HL.out; simp [putB_length, strNums_length]; omega)).mono ?_
  rintro en wn1 ⟨rfl, hp1⟩
  rw [refNum_ok1 _ _ HFk.out] at hp1
  obtain ⟨vn1, hq1⟩ := HP0.out.step hp1
  have HP1 := Lib.hid hq1
  clear a0 a1 a2 a3 a4 a5 a6 a7 a8
  clear hp1 hq1
  obtain ⟨a0, a1, a2, a3, a4, a5, a6, a7, a8⟩ := HC.out _ _ _ HP1.out
  go_wp2_with fail
  refine (refnum_any p _ (bs ++ putB r.k 1) 0 r.i 2 _ HP1.out.enc (by have := HL.out; simp [putB_length, strNums_length]; omega)).mono ?_
  rintro en wn2 ⟨rfl, hp2⟩
  rw [refNum_ok2 _ _ HFi.out] at hp2
  obtain ⟨vn2, hq2⟩ := HP1.out.step hp2
  have HP2 := Lib.hid hq2
  clear a0 a1 a2 a3 a4 a5 a6 a7 a8
  clear hp2 hq2
  obtain ⟨a0, a1, a2, a3, a4, a5, a6, a7, a8⟩ := HC.out _ _ _ HP2.out
  go_wp2_with fail
  have HBW3 := Lib.hid (HP2.out.below (bytes_below _ 5 r.s))
  refine (raw_any p _ (bs ++ putB r.k 1 ++ putB r.i 2) 0 _ HBW3.out.enc _ (strNums r.s) r.s.size _ (strNums_length _) (bytes_ints _ _ _) (by have := HL.out; have hs0 : (⟨#[]⟩ : ByteArray).size = 0 := rfl; simp [putB_length, strNums_length, HFS.out]; omega)).mono ?_
  rintro en wn3 ⟨rfl, hp3⟩
  obtain ⟨vn3, hq3⟩ := HBW3.out.step hp3
  have HP3 := Lib.hid hq3
  clear a0 a1 a2 a3 a4 a5 a6 a7 a8
  clear hp3 hq3
  obtain ⟨a0, a1, a2, a3, a4, a5, a6, a7, a8⟩ := HC.out _ _ _ HP3.out
  go_wp2
  go_end0
  refine ⟨rfl, ?_⟩
  have hd := HOUT.out _ _ HP3.out.done
  rw [HFS.out, strNums_nil, List.append_nil] at hd
  rw [HCH.out]
  simpa [List.append_assoc] using hd

end Go.Proofs.Ytadejcpifabpoaa
