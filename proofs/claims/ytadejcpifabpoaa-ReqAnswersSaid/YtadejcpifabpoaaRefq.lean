/- Contracts of cflref9.putReq, PutEvent. -/
import Derived.Test.YtadejcpifabpoaaRefp
import Derived.Test.YtadejcpifabpoaaRefe2
import Derived.Lib.ConvBytes
namespace Go.Proofs.Ytadejcpifabpoaa
open Go.RowKit
set_option linter.unusedVariables false
set_option linter.unusedSimpArgs false

theorem bytes_below (w : World) (e : TypeId) (s : ByteArray) : Below w.heap.size w (Lib.bytesWorld w e s) :=
  ⟨rfl, rfl, rfl, by rw [Lib.bytesWorld_size]; omega, fun k hk => Lib.bytesWorld_at_old w e s k hk⟩
theorem bytes_ints (w : World) (e : TypeId) (s : ByteArray) : IntsAt .u8 (Lib.bytesWorld w e s) (some ⟨w.heap.size, 0, none⟩) (strNums s) :=
  Or.inr ⟨w.heap.size, 0, rfl, fun i hi => by
    rw [strNums_length] at hi
    rw [Nat.zero_add, Lib.bytesWorld_cell w e s i hi]
    congr 2
    unfold strNums
    simp [List.getD, hi]⟩

structure Putting (w1 wr : World) (p : Nat) (v v' : Value) (X : Nat) (cs : Array Value) (T : TypeId) (bs : List Int) : Prop where
  enc : EncAt 105 wr p v' bs 0
  keep : Keeps (fpE p v) w1 wr
  fresh : ∀ g, v'.ownBlock = some g → v.ownBlock = some g ∨ w1.heap.size ≤ g
  box : wr.heap[X]? = some (.cells cs T (0, 0))
  xp : X ≠ p
  xv : v.ownBlock ≠ some X
  xl : X < w1.heap.size
section
variable {w1 wr w' : World} {p X : Nat} {v v' : Value} {cs : Array Value} {T : TypeId} {bs bs' : List Int}
theorem Putting.notX (h : Putting w1 wr p v v' X cs T bs) : ¬ fpE p v' X := by
  rintro (hf | hf)
  · exact h.xp hf
  · rcases h.fresh X hf with h1 | h1
    · exact h.xv h1
    · have := h.xl; omega
theorem Putting.step (h : Putting w1 wr p v v' X cs T bs) (hp : EncPost 105 wr p v' bs' 0 w') : ∃ v2, Putting w1 w' p v v2 X cs T bs' := by
  have hn := h.notX
  obtain ⟨v2, a1, a2, a3⟩ := EncPost.trans h.keep h.fresh hp
  obtain ⟨_, _, b2, _⟩ := hp
  exact ⟨v2, a1, a2, a3, (b2.block X (blk_lt h.box) hn).trans h.box, h.xp, h.xv, h.xl⟩
theorem Putting.below (h : Putting w1 wr p v v' X cs T bs) (hb : Below wr.heap.size wr w') : Putting w1 w' p v v' X cs T bs :=
  ⟨h.enc.keep (Keeps.of_below (S := fun _ => False) hb) (fun _ _ f => f), h.keep.trans (Keeps.of_below (S := fun _ => False) hb) (fun _ f => f.elim), h.fresh, (hb.block X (blk_lt h.box)).trans h.box, h.xp, h.xv, h.xl⟩
theorem Putting.done (h : Putting w1 wr p v v' X cs T bs) : EncPost 105 w1 p v bs 0 wr := ⟨v', h.enc, h.keep, h.fresh⟩
end
theorem Putting.start {w : World} {p : Nat} {v : Value} {bs : List Int} (h : EncAt 105 w p v bs 0) (cs : Array Value) (T : TypeId) : Putting (w.alloc (.cells cs T)) (w.alloc (.cells cs T)) p v v w.heap.size cs T bs :=
  have hb : Below w.heap.size w (w.alloc (.cells cs T)) := (Below.refl _ _).alloc (Nat.le_refl _) _
  ⟨h.keep (Keeps.of_below (S := fun _ => False) hb) (fun _ _ f => f), Keeps.refl _ _, fun _ hg => Or.inl hg, heap_alloc_new _ _, (by have := h.lt p (Or.inl rfl); omega), (fun e => by have := h.lt w.heap.size (Or.inr e); omega), (by simp)⟩
theorem put_out {w w' : World} {p : Nat} {v : Value} {bs : List Int} {o : Obj} (h : EncPost 105 (w.alloc o) p v bs 0 w') : EncPost 105 w p v bs 0 w' :=
  EncPost.trans (Keeps.of_below ((Below.refl _ _).alloc (Nat.le_refl _) _)) (fun _ hg => Or.inl hg) h
theorem refNum_ok1 (bs : List Int) (n : Int) (h : fitsB n 1 = true) : refNum bs 0 n 1 = (bs ++ putB n 1, 0) := by
  unfold refNum; rw [if_pos h]; rfl
theorem refNum_ok2 (bs : List Int) (n : Int) (h : fitsB n 2 = true) : refNum bs 0 n 2 = (bs ++ putB n 2, 0) := by
  unfold refNum; rw [if_pos h]; rfl
theorem refNum_ok8 (bs : List Int) (n : Int) (h : fitsB n 8 = true) : refNum bs 0 n 8 = (bs ++ putB n 8, 0) := by
  unfold refNum; rw [if_pos h]; rfl
theorem strNums_nil : strNums ⟨#[]⟩ = [] := rfl
theorem putReq_chunk1 (r : RQ) (hk : r.k = 1) (ho : okE false r.ev = true) : chunkE false r.ev = putB r.k 1 ++ (putB r.t 1) ++ (putB r.a 1) ++ (putB r.n 8) ∧ fitsB r.t 1 = true ∧ fitsB r.a 1 = true ∧ fitsB r.n 8 = true ∧ r.s = ⟨#[]⟩ := by
  have e0 : r.ev.k = 1 := hk
  unfold okE at ho
  rw [e0] at ho
  simp only [if_pos, if_neg, reduceIte, Int.reduceEq, Bool.and_eq_true, decide_eq_true_eq, Bool.false_eq_true] at ho
  refine ⟨?_, ?_⟩
  · unfold chunkE
    rw [e0]
    try rw [hk]
    simp [hasN, partE, numSign, txtSign, EV.num, EV.txt, RQ.ev]
  · simp only [emptyB_is, RQ.ev] at ho
    simp only [ho, and_self, true_and, and_true]
theorem putReq_chunk2 (r : RQ) (hk : r.k = 2) (ho : okE false r.ev = true) : chunkE false r.ev = putB r.k 1 ++ (putB r.t 1) ++ (putB r.a 1) ++ (putB r.n 8) ++ (strNums r.h) ++ (putB r.d 8) ∧ fitsB r.t 1 = true ∧ fitsB r.a 1 = true ∧ fitsB r.n 8 = true ∧ fitsB r.d 8 = true ∧ r.s = ⟨#[]⟩ ∧ r.h.size = 32 := by
  have e0 : r.ev.k = 2 := hk
  unfold okE at ho
  rw [e0] at ho
  simp only [if_pos, if_neg, reduceIte, Int.reduceEq, Bool.and_eq_true, decide_eq_true_eq, Bool.false_eq_true] at ho
  refine ⟨?_, ?_⟩
  · unfold chunkE
    rw [e0]
    try rw [hk]
    simp [hasN, partE, numSign, txtSign, EV.num, EV.txt, RQ.ev]
  · simp only [emptyB_is, RQ.ev] at ho
    simp only [ho, and_self, true_and, and_true]
theorem putReq_chunk3 (r : RQ) (hk : r.k = 3) (ho : okE false r.ev = true) : chunkE false r.ev = putB r.k 1 ++ (putB r.i 2) ++ (strNums r.s) ∧ fitsB r.i 2 = true ∧ r.s.size = 32 := by
  have e0 : r.ev.k = 3 := hk
  unfold okE at ho
  rw [e0] at ho
  simp only [if_pos, if_neg, reduceIte, Int.reduceEq, Bool.and_eq_true, decide_eq_true_eq, Bool.false_eq_true] at ho
  refine ⟨?_, ?_⟩
  · unfold chunkE
    rw [e0]
    try rw [hk]
    simp [hasN, partE, numSign, txtSign, EV.num, EV.txt, RQ.ev]
  · simp only [emptyB_is, RQ.ev] at ho
    simp only [ho, and_self, true_and, and_true]
theorem putReq_chunk4 (r : RQ) (hk : r.k = 4) (ho : okE false r.ev = true) : chunkE false r.ev = putB r.k 1 ++ (putB r.i 2) ∧ fitsB r.i 2 = true ∧ r.s = ⟨#[]⟩ := by
  have e0 : r.ev.k = 4 := hk
  unfold okE at ho
  rw [e0] at ho
  simp only [if_pos, if_neg, reduceIte, Int.reduceEq, Bool.and_eq_true, decide_eq_true_eq, Bool.false_eq_true] at ho
  refine ⟨?_, ?_⟩
  · unfold chunkE
    rw [e0]
    try rw [hk]
    simp [hasN, partE, numSign, txtSign, EV.num, EV.txt, RQ.ev]
  · simp only [emptyB_is, RQ.ev] at ho
    simp only [ho, and_self, true_and, and_true]

set_option maxRecDepth 100000 in
set_option maxHeartbeats 4000000 in
theorem putReq (p : Nat) (v : Value) (bs : List Int) (r : RQ) (w : World) (h : EncAt 105 w p v bs 0) (ho : okE false r.ev = true) (hlen : bs.length + 100 ≤ 140737488355328) :
    Calls Try.prog 71 #[.pointer (some ⟨p, 0, none⟩), .agg r.cells] w fun en w' => en = .returned (.tuple #[]) ∧ EncPost 105 w p v (bs ++ chunkE false r.ev) 0 w' := by
  obtain ⟨w1, hw1⟩ : ∃ w1, w1 = w.alloc (.cells r.cells 40) := ⟨_, rfl⟩
  have HP0 : Hid (Putting w1 w1 p v v w.heap.size r.cells 40 bs) := Lib.hid (by subst hw1; exact Putting.start h r.cells 40)
  have HOUT : Hid (∀ bs' w', EncPost 105 w1 p v bs' 0 w' → EncPost 105 w p v bs' 0 w') := Lib.hid (fun bs' w' hp => by subst hw1; exact put_out hp)
  have kc := fun (w : World) (s : ByteArray) => Lib.run_convert_string_bytes (P := Try.prog) w 9 41 5 s Try.underlying9 Try.underlying41 Try.underlying5
  have HKK : Hid (r.k = 1 ∨ r.k = 2 ∨ r.k = 3 ∨ r.k = 4) := Lib.hid (okE_k false r.ev ho)
  have HO := Lib.hid ho
  have HL := Lib.hid hlen
  unfold RQ.cells at hw1
  have HW1 := Lib.hid hw1
  have HC : Hid (∀ wr v' bs', Putting w1 wr p v v' w.heap.size r.cells 40 bs' → wr.cell? ⟨w.heap.size, 0, none⟩ = some (.int .i64 r.k) ∧ wr.cell? ⟨w.heap.size, 1, none⟩ = some (.int .i64 r.t) ∧ wr.cell? ⟨w.heap.size, 2, none⟩ = some (.int .i64 r.a) ∧ wr.cell? ⟨w.heap.size, 3, none⟩ = some (.int .i64 r.n) ∧ wr.cell? ⟨w.heap.size, 4, none⟩ = some (.int .i64 r.i) ∧ wr.cell? ⟨w.heap.size, 5, none⟩ = some (.int .i64 r.d) ∧ wr.cell? ⟨w.heap.size, 6, none⟩ = some (.string r.h) ∧ wr.cell? ⟨w.heap.size, 7, none⟩ = some (.string r.s)) := Lib.hid (fun wr v' bs' h => ⟨blk_cell h.box 0, blk_cell h.box 1, blk_cell h.box 2, blk_cell h.box 3, blk_cell h.box 4, blk_cell h.box 5, blk_cell h.box 6, blk_cell h.box 7⟩)
  clear h ho hlen hw1
  unfold RQ.cells
  by_cases k1 : r.k = 1
  case pos =>
    obtain ⟨hch, hfit⟩ := putReq_chunk1 r k1 HO.out
    have HCH := Lib.hid hch
    have HFIT := Lib.hid hfit
    clear hch hfit
    obtain ⟨Ft, Fa, Fn, FS⟩ := HFIT.out
    have HFt := Lib.hid Ft
    have HFa := Lib.hid Fa
    have HFn := Lib.hid Fn
    have HFS := Lib.hid FS
    have HK := Lib.hid k1
    clear Ft Fa Fn FS
    have HFk : Hid (fitsB r.k 1 = true) := Lib.hid (by rw [HK.out]; decide)
    have e1 : (r.k == 1) = true := by simp [k1]
    have e2 : (r.k == 2) = false := by simp [k1]
    have g1 : ¬ (1 < r.k) := by omega
    have g2 : ¬ (2 < r.k) := by omega
    have g3 : (r.k < 3) := by omega
    clear k1
    go_enter Try.func71, Try.ntmps71
    go_upto_region 1 with fail
    rw [← HW1.out]
    obtain ⟨a0, a1, a2, a3, a4, a5, a6, a7⟩ := HC.out _ _ _ HP0.out
    go_wp2_with fail
    refine (refnum_any p _ (bs) 0 r.k 1 _ HP0.out.enc (by have := HL.out; simp [putB_length, strNums_length]; omega)).mono ?_
    rintro en wn1 ⟨rfl, hp1⟩
    rw [refNum_ok1 _ _ HFk.out] at hp1
    obtain ⟨vn1, hq1⟩ := HP0.out.step hp1
    have HP1 := Lib.hid hq1
    clear a0 a1 a2 a3 a4 a5 a6 a7
    clear hp1 hq1
    obtain ⟨a0, a1, a2, a3, a4, a5, a6, a7⟩ := HC.out _ _ _ HP1.out
    go_wp2_with fail
    refine (refnum_any p _ (bs ++ putB r.k 1) 0 r.t 1 _ HP1.out.enc (by have := HL.out; simp [putB_length, strNums_length]; omega)).mono ?_
    rintro en wn2 ⟨rfl, hp2⟩
    rw [refNum_ok1 _ _ HFt.out] at hp2
    obtain ⟨vn2, hq2⟩ := HP1.out.step hp2
    have HP2 := Lib.hid hq2
    clear a0 a1 a2 a3 a4 a5 a6 a7
    clear hp2 hq2
    obtain ⟨a0, a1, a2, a3, a4, a5, a6, a7⟩ := HC.out _ _ _ HP2.out
    go_wp2_with fail
    refine (refnum_any p _ (bs ++ putB r.k 1 ++ putB r.t 1) 0 r.a 1 _ HP2.out.enc (by have := HL.out; simp [putB_length, strNums_length]; omega)).mono ?_
    rintro en wn3 ⟨rfl, hp3⟩
    rw [refNum_ok1 _ _ HFa.out] at hp3
    obtain ⟨vn3, hq3⟩ := HP2.out.step hp3
    have HP3 := Lib.hid hq3
    clear a0 a1 a2 a3 a4 a5 a6 a7
    clear hp3 hq3
    obtain ⟨a0, a1, a2, a3, a4, a5, a6, a7⟩ := HC.out _ _ _ HP3.out
    go_wp2_with fail
    refine (refnum_any p _ (bs ++ putB r.k 1 ++ putB r.t 1 ++ putB r.a 1) 0 r.n 8 _ HP3.out.enc (by have := HL.out; simp [putB_length, strNums_length]; omega)).mono ?_
    rintro en wn4 ⟨rfl, hp4⟩
    rw [refNum_ok8 _ _ HFn.out] at hp4
    obtain ⟨vn4, hq4⟩ := HP3.out.step hp4
    have HP4 := Lib.hid hq4
    clear a0 a1 a2 a3 a4 a5 a6 a7
    clear hp4 hq4
    obtain ⟨a0, a1, a2, a3, a4, a5, a6, a7⟩ := HC.out _ _ _ HP4.out
    go_wp2_with fail
    have HBW5 := Lib.hid (HP4.out.below (bytes_below _ 5 r.s))
    refine (raw_any p _ (bs ++ putB r.k 1 ++ putB r.t 1 ++ putB r.a 1 ++ putB r.n 8) 0 _ HBW5.out.enc _ (strNums r.s) r.s.size _ (strNums_length _) (bytes_ints _ _ _) (by have := HL.out; have hs0 : (⟨#[]⟩ : ByteArray).size = 0 := rfl; simp [putB_length, strNums_length, HFS.out]; omega)).mono ?_
    rintro en wn5 ⟨rfl, hp5⟩
    obtain ⟨vn5, hq5⟩ := HBW5.out.step hp5
    have HP5 := Lib.hid hq5
    clear a0 a1 a2 a3 a4 a5 a6 a7
    clear hp5 hq5
    obtain ⟨a0, a1, a2, a3, a4, a5, a6, a7⟩ := HC.out _ _ _ HP5.out
    go_wp2
    go_end0
    refine ⟨rfl, ?_⟩
    have hd := HOUT.out _ _ HP5.out.done
    rw [HFS.out, strNums_nil, List.append_nil] at hd
    rw [HCH.out]
    simpa [List.append_assoc] using hd
  by_cases k2 : r.k = 2
  case pos =>
    obtain ⟨hch, hfit⟩ := putReq_chunk2 r k2 HO.out
    have HCH := Lib.hid hch
    have HFIT := Lib.hid hfit
    clear hch hfit
    obtain ⟨Ft, Fa, Fn, Fd, FS, FH⟩ := HFIT.out
    have HFt := Lib.hid Ft
    have HFa := Lib.hid Fa
    have HFn := Lib.hid Fn
    have HFd := Lib.hid Fd
    have HFS := Lib.hid FS
    have HFH := Lib.hid FH
    have HK := Lib.hid k2
    clear Ft Fa Fn Fd FS FH
    have HFk : Hid (fitsB r.k 1 = true) := Lib.hid (by rw [HK.out]; decide)
    have e1 : (r.k == 1) = false := by simp [k2]
    have e2 : (r.k == 2) = true := by simp [k2]
    have g1 : (1 < r.k) := by omega
    have g2 : ¬ (2 < r.k) := by omega
    have g3 : (r.k < 3) := by omega
    clear k1 k2
    go_enter Try.func71, Try.ntmps71
    go_upto_region 1 with fail
    rw [← HW1.out]
    obtain ⟨a0, a1, a2, a3, a4, a5, a6, a7⟩ := HC.out _ _ _ HP0.out
    go_wp2_with fail
    refine (refnum_any p _ (bs) 0 r.k 1 _ HP0.out.enc (by have := HL.out; simp [putB_length, strNums_length, HFH.out]; omega)).mono ?_
    rintro en wn1 ⟨rfl, hp1⟩
    rw [refNum_ok1 _ _ HFk.out] at hp1
    obtain ⟨vn1, hq1⟩ := HP0.out.step hp1
    have HP1 := Lib.hid hq1
    clear a0 a1 a2 a3 a4 a5 a6 a7
    clear hp1 hq1
    obtain ⟨a0, a1, a2, a3, a4, a5, a6, a7⟩ := HC.out _ _ _ HP1.out
    go_wp2_with fail
    refine (refnum_any p _ (bs ++ putB r.k 1) 0 r.t 1 _ HP1.out.enc (by have := HL.out; simp [putB_length, strNums_length, HFH.out]; omega)).mono ?_
    rintro en wn2 ⟨rfl, hp2⟩
    rw [refNum_ok1 _ _ HFt.out] at hp2
    obtain ⟨vn2, hq2⟩ := HP1.out.step hp2
    have HP2 := Lib.hid hq2
    clear a0 a1 a2 a3 a4 a5 a6 a7
    clear hp2 hq2
    obtain ⟨a0, a1, a2, a3, a4, a5, a6, a7⟩ := HC.out _ _ _ HP2.out
    go_wp2_with fail
    refine (refnum_any p _ (bs ++ putB r.k 1 ++ putB r.t 1) 0 r.a 1 _ HP2.out.enc (by have := HL.out; simp [putB_length, strNums_length, HFH.out]; omega)).mono ?_
    rintro en wn3 ⟨rfl, hp3⟩
    rw [refNum_ok1 _ _ HFa.out] at hp3
    obtain ⟨vn3, hq3⟩ := HP2.out.step hp3
    have HP3 := Lib.hid hq3
    clear a0 a1 a2 a3 a4 a5 a6 a7
    clear hp3 hq3
    obtain ⟨a0, a1, a2, a3, a4, a5, a6, a7⟩ := HC.out _ _ _ HP3.out
    go_wp2_with fail
    refine (refnum_any p _ (bs ++ putB r.k 1 ++ putB r.t 1 ++ putB r.a 1) 0 r.n 8 _ HP3.out.enc (by have := HL.out; simp [putB_length, strNums_length, HFH.out]; omega)).mono ?_
    rintro en wn4 ⟨rfl, hp4⟩
    rw [refNum_ok8 _ _ HFn.out] at hp4
    obtain ⟨vn4, hq4⟩ := HP3.out.step hp4
    have HP4 := Lib.hid hq4
    clear a0 a1 a2 a3 a4 a5 a6 a7
    clear hp4 hq4
    obtain ⟨a0, a1, a2, a3, a4, a5, a6, a7⟩ := HC.out _ _ _ HP4.out
    go_wp2_with fail
    have HBW5 := Lib.hid (HP4.out.below (bytes_below _ 5 r.h))
    refine (raw_any p _ (bs ++ putB r.k 1 ++ putB r.t 1 ++ putB r.a 1 ++ putB r.n 8) 0 _ HBW5.out.enc _ (strNums r.h) r.h.size _ (strNums_length _) (bytes_ints _ _ _) (by have := HL.out; have hs0 : (⟨#[]⟩ : ByteArray).size = 0 := rfl; simp [putB_length, strNums_length, HFS.out, HFH.out]; omega)).mono ?_
    rintro en wn5 ⟨rfl, hp5⟩
    obtain ⟨vn5, hq5⟩ := HBW5.out.step hp5
    have HP5 := Lib.hid hq5
    clear a0 a1 a2 a3 a4 a5 a6 a7
    clear hp5 hq5
    obtain ⟨a0, a1, a2, a3, a4, a5, a6, a7⟩ := HC.out _ _ _ HP5.out
    go_wp2_with fail
    refine (refnum_any p _ (bs ++ putB r.k 1 ++ putB r.t 1 ++ putB r.a 1 ++ putB r.n 8 ++ strNums r.h) 0 r.d 8 _ HP5.out.enc (by have := HL.out; simp [putB_length, strNums_length, HFH.out]; omega)).mono ?_
    rintro en wn6 ⟨rfl, hp6⟩
    rw [refNum_ok8 _ _ HFd.out] at hp6
    obtain ⟨vn6, hq6⟩ := HP5.out.step hp6
    have HP6 := Lib.hid hq6
    clear a0 a1 a2 a3 a4 a5 a6 a7
    clear hp6 hq6
    obtain ⟨a0, a1, a2, a3, a4, a5, a6, a7⟩ := HC.out _ _ _ HP6.out
    go_wp2_with fail
    have HBW7 := Lib.hid (HP6.out.below (bytes_below _ 5 r.s))
    refine (raw_any p _ (bs ++ putB r.k 1 ++ putB r.t 1 ++ putB r.a 1 ++ putB r.n 8 ++ strNums r.h ++ putB r.d 8) 0 _ HBW7.out.enc _ (strNums r.s) r.s.size _ (strNums_length _) (bytes_ints _ _ _) (by have := HL.out; have hs0 : (⟨#[]⟩ : ByteArray).size = 0 := rfl; simp [putB_length, strNums_length, HFS.out, HFH.out]; omega)).mono ?_
    rintro en wn7 ⟨rfl, hp7⟩
    obtain ⟨vn7, hq7⟩ := HBW7.out.step hp7
    have HP7 := Lib.hid hq7
    clear a0 a1 a2 a3 a4 a5 a6 a7
    clear hp7 hq7
    obtain ⟨a0, a1, a2, a3, a4, a5, a6, a7⟩ := HC.out _ _ _ HP7.out
    go_wp2
    go_end0
    refine ⟨rfl, ?_⟩
    have hd := HOUT.out _ _ HP7.out.done
    rw [HFS.out, strNums_nil, List.append_nil] at hd
    rw [HCH.out]
    simpa [List.append_assoc] using hd
  by_cases k3 : r.k = 3
  case pos =>
    obtain ⟨hch, hfit⟩ := putReq_chunk3 r k3 HO.out
    have HCH := Lib.hid hch
    have HFIT := Lib.hid hfit
    clear hch hfit
    obtain ⟨Fi, FS⟩ := HFIT.out
    have HFi := Lib.hid Fi
    have HFS := Lib.hid FS
    have HK := Lib.hid k3
    clear Fi FS
    have HFk : Hid (fitsB r.k 1 = true) := Lib.hid (by rw [HK.out]; decide)
    have e1 : (r.k == 1) = false := by simp [k3]
    have e2 : (r.k == 2) = false := by simp [k3]
    have g1 : (1 < r.k) := by omega
    have g2 : (2 < r.k) := by omega
    have g3 : ¬ (r.k < 3) := by omega
    clear k1 k2 k3
    go_enter Try.func71, Try.ntmps71
    go_upto_region 1 with fail
    rw [← HW1.out]
    obtain ⟨a0, a1, a2, a3, a4, a5, a6, a7⟩ := HC.out _ _ _ HP0.out
    go_wp2_with fail
    refine (refnum_any p _ (bs) 0 r.k 1 _ HP0.out.enc (by have := HL.out; simp [putB_length, strNums_length]; omega)).mono ?_
    rintro en wn1 ⟨rfl, hp1⟩
    rw [refNum_ok1 _ _ HFk.out] at hp1
    obtain ⟨vn1, hq1⟩ := HP0.out.step hp1
    have HP1 := Lib.hid hq1
    clear a0 a1 a2 a3 a4 a5 a6 a7
    clear hp1 hq1
    obtain ⟨a0, a1, a2, a3, a4, a5, a6, a7⟩ := HC.out _ _ _ HP1.out
    go_wp2_with fail
    refine (refnum_any p _ (bs ++ putB r.k 1) 0 r.i 2 _ HP1.out.enc (by have := HL.out; simp [putB_length, strNums_length]; omega)).mono ?_
    rintro en wn2 ⟨rfl, hp2⟩
    rw [refNum_ok2 _ _ HFi.out] at hp2
    obtain ⟨vn2, hq2⟩ := HP1.out.step hp2
    have HP2 := Lib.hid hq2
    clear a0 a1 a2 a3 a4 a5 a6 a7
    clear hp2 hq2
    obtain ⟨a0, a1, a2, a3, a4, a5, a6, a7⟩ := HC.out _ _ _ HP2.out
    go_wp2_with fail
    have HBW3 := Lib.hid (HP2.out.below (bytes_below _ 5 r.s))
    refine (raw_any p _ (bs ++ putB r.k 1 ++ putB r.i 2) 0 _ HBW3.out.enc _ (strNums r.s) r.s.size _ (strNums_length _) (bytes_ints _ _ _) (by have := HL.out; have hs0 : (⟨#[]⟩ : ByteArray).size = 0 := rfl; simp [putB_length, strNums_length, HFS.out]; omega)).mono ?_
    rintro en wn3 ⟨rfl, hp3⟩
    obtain ⟨vn3, hq3⟩ := HBW3.out.step hp3
    have HP3 := Lib.hid hq3
    clear a0 a1 a2 a3 a4 a5 a6 a7
    clear hp3 hq3
    obtain ⟨a0, a1, a2, a3, a4, a5, a6, a7⟩ := HC.out _ _ _ HP3.out
    go_wp2
    go_end0
    refine ⟨rfl, ?_⟩
    have hd := HOUT.out _ _ HP3.out.done
    rw [HCH.out]
    simpa [List.append_assoc] using hd
  have k4 : r.k = 4 := by rcases HKK.out with h | h | h | h <;> first | exact absurd h k1 | exact absurd h k2 | exact absurd h k3 | exact h
  obtain ⟨hch, hfit⟩ := putReq_chunk4 r k4 HO.out
  have HCH := Lib.hid hch
  have HFIT := Lib.hid hfit
  clear hch hfit
  obtain ⟨Fi, FS⟩ := HFIT.out
  have HFi := Lib.hid Fi
  have HFS := Lib.hid FS
  have HK := Lib.hid k4
  clear Fi FS
  have HFk : Hid (fitsB r.k 1 = true) := Lib.hid (by rw [HK.out]; decide)
  have e1 : (r.k == 1) = false := by simp [k4]
  have e2 : (r.k == 2) = false := by simp [k4]
  have g1 : (1 < r.k) := by omega
  have g2 : (2 < r.k) := by omega
  have g3 : ¬ (r.k < 3) := by omega
  clear k1 k2 k3 k4
  go_enter Try.func71, Try.ntmps71
  go_upto_region 1 with fail
  rw [← HW1.out]
  obtain ⟨a0, a1, a2, a3, a4, a5, a6, a7⟩ := HC.out _ _ _ HP0.out
  go_wp2_with fail
  refine (refnum_any p _ (bs) 0 r.k 1 _ HP0.out.enc (by have := HL.out; simp [putB_length, strNums_length]; omega)).mono ?_
  rintro en wn1 ⟨rfl, hp1⟩
  rw [refNum_ok1 _ _ HFk.out] at hp1
  obtain ⟨vn1, hq1⟩ := HP0.out.step hp1
  have HP1 := Lib.hid hq1
  clear a0 a1 a2 a3 a4 a5 a6 a7
  clear hp1 hq1
  obtain ⟨a0, a1, a2, a3, a4, a5, a6, a7⟩ := HC.out _ _ _ HP1.out
  go_wp2_with fail
  refine (refnum_any p _ (bs ++ putB r.k 1) 0 r.i 2 _ HP1.out.enc (by have := HL.out; simp [putB_length, strNums_length]; omega)).mono ?_
  rintro en wn2 ⟨rfl, hp2⟩
  rw [refNum_ok2 _ _ HFi.out] at hp2
  obtain ⟨vn2, hq2⟩ := HP1.out.step hp2
  have HP2 := Lib.hid hq2
  clear a0 a1 a2 a3 a4 a5 a6 a7
  clear hp2 hq2
  obtain ⟨a0, a1, a2, a3, a4, a5, a6, a7⟩ := HC.out _ _ _ HP2.out
  go_wp2_with fail
  have HBW3 := Lib.hid (HP2.out.below (bytes_below _ 5 r.s))
  refine (raw_any p _ (bs ++ putB r.k 1 ++ putB r.i 2) 0 _ HBW3.out.enc _ (strNums r.s) r.s.size _ (strNums_length _) (bytes_ints _ _ _) (by have := HL.out; have hs0 : (⟨#[]⟩ : ByteArray).size = 0 := rfl; simp [putB_length, strNums_length, HFS.out]; omega)).mono ?_
  rintro en wn3 ⟨rfl, hp3⟩
  obtain ⟨vn3, hq3⟩ := HBW3.out.step hp3
  have HP3 := Lib.hid hq3
  clear a0 a1 a2 a3 a4 a5 a6 a7
  clear hp3 hq3
  obtain ⟨a0, a1, a2, a3, a4, a5, a6, a7⟩ := HC.out _ _ _ HP3.out
  go_wp2
  go_end0
  refine ⟨rfl, ?_⟩
  have hd := HOUT.out _ _ HP3.out.done
  rw [HFS.out, strNums_nil, List.append_nil] at hd
  rw [HCH.out]
  simpa [List.append_assoc] using hd

end Go.Proofs.Ytadejcpifabpoaa
