/- Contracts of package wire's encoder. -/
import Derived.Test.YtbhoakohpfdeoaaNum
import Derived.Test.YtbhoakohpfdeoaaHeap
import Derived.Test.YtbhoakohpfdeoaaClone
import Derived.Deep.RegionHeld3
namespace Go.Proofs.Ytbhoakohpfdeoaa
open Go.RowKit
set_option linter.unusedVariables false

def mayB (size : Int) : Bool := decide (1 ≤ size ∧ size ≤ 8)
def byteAt (n : Int) (i : Nat) : Int := IntKind.u8.wrap (n / 2 ^ (8 * i))
def putB (n : Int) : Nat → List Int
  | 0 => []
  | k + 1 => byteAt n k :: putB n k
def fitsB (n size : Int) : Bool := mayB size && amtB n && (decide (8 ≤ size) || decide (n / 2 ^ (8 * size.toNat) ≤ 0))
def encNum (bs : List Int) (e n size : Int) : List Int × Int := if e = 0 then (if fitsB n size then (bs ++ putB n size.toNat, 0) else (bs, 1)) else (bs, e)


set_option maxHeartbeats 400000 in
theorem may_any (size : Int) (w : World) :
    Calls Try.prog 82 #[.int .i64 size] w fun e w' => e = .returned (.bool (mayB size)) ∧ w = w' := by
  go_enter Try.func82, Try.ntmps82
  go_wp2
  all_goals
    go_ret
    exact ⟨ret_bool (by unfold mayB; simp; omega), rfl⟩

set_option maxHeartbeats 400000 in
theorem newEnc (w : World) :
    Calls Try.prog 50 #[] w fun e w' => e = .returned (.pointer (some ⟨w.heap.size, 0, none⟩)) ∧ w' = w.alloc (.cells #[.slice none 0 0, .int .i64 0] 138) := by
  go_enter Try.func50, Try.ntmps50
  go_wp2
  go_ret
  exact ⟨rfl, rfl⟩


theorem putB_length (n : Int) (s : Nat) : (putB n s).length = s := by
  induction s with
  | zero => rfl
  | succ s ih => simp [putB, ih]
theorem putB_take (n : Int) (s k : Nat) (hk : k < s) : (putB n s).take (s - k) = (putB n s).take (s - (k + 1)) ++ [byteAt n k] := by
  induction s with
  | zero => omega
  | succ s ih =>
    by_cases h : k = s
    · subst h
      rw [show k + 1 - k = 1 by omega, show k + 1 - (k + 1) = 0 by omega]; simp [putB]
    · have := ih (by omega)
      rw [show s + 1 - k = (s - k) + 1 by omega, show s + 1 - (k + 1) = (s - (k + 1)) + 1 by omega]
      simp [putB, this]

set_option maxRecDepth 100000 in
set_option maxHeartbeats 2000000 in
theorem enc_num (p : Nat) (v : Value) (bs : List Int) (e n size : Int) (w : World) (h : EncAt 138 w p v bs e) (hlen : bs.length + 8 ≤ 140737488355328) :
    Calls Try.prog 51 #[.pointer (some ⟨p, 0, none⟩), .int .i64 n, .int .i64 size] w fun en w' => en = .returned (.tuple #[]) ∧ EncPost 138 w p v (encNum bs e n size).1 (encNum bs e n size).2 w' := by
  have h' := h
  obtain ⟨hp, hown, hne⟩ := h'
  have c0 := blk_cell hp 0
  have c1 := blk_cell hp 1
  have f0 := blk_frozen hp 0
  have f1 := blk_frozen hp 1
  simp only [List.getElem?_toArray, List.getElem?_cons_zero, List.getElem?_cons_succ] at c0 c1
  by_cases he : e = 0
  · subst he
    have hbad : fitsB n size = false → EncPost 138 w p v (encNum bs 0 n size).1 (encNum bs 0 n size).2 (w.setCell ⟨p, 1, none⟩ (.int .i64 1)) := fun hf => by
      rw [show encNum bs 0 n size = (bs, 1) by simp [encNum, hf]]
      exact enc_err h 1
    by_cases hm : mayB size = true
    · have hm' := hm
      simp only [mayB, decide_eq_true_eq] at hm'
      obtain ⟨s, rfl⟩ := Int.eq_ofNat_of_zero_le (show 0 ≤ size by omega)
      obtain ⟨hs1, hs2⟩ := hm'
      by_cases ha : amtB n = true
      · by_cases hq : (s : Int) < 8 ∧ 0 < n / 2 ^ (8 * s)
        · have HN : fitsB n s = false := by simp [fitsB, hm, ha]; omega
          obtain ⟨hq1, hq2⟩ := hq
          have hq3 : min (8 * s) 64 = 8 * s := by omega
          have HP := Lib.hid (hbad HN)
          clear hbad h hp hown hne
          go_enter Try.func51, Try.ntmps51
          go_wp2_with (first | (go_at_call 82; refine (may_any _ _).mono ?_; rintro e w' ⟨rfl, rfl⟩) | (go_at_call 63; refine (amount_any _ _).mono ?_; rintro e w' ⟨rfl, rfl⟩))
          refine bodyPost_ret (results_none rfl _ _ _) rfl ⟨rfl, HP.out⟩
        · have HN := Lib.hid (show encNum bs 0 n s = (bs ++ putB n s, 0) by simp [encNum, fitsB, hm, ha]; omega)
          have hq' : ¬ (s : Int) < 8 ∨ ((s : Int) < 8 ∧ min (8 * s) 64 = 8 * s ∧ ¬ 0 < n / 2 ^ (8 * s)) := by omega
          obtain ⟨i0, hi, hz0, hz1, hz2⟩ := info_parts Try_infoU8
          have hpl := blk_lt hp
          have H0 := Lib.hid (show EncPost 138 w p v (bs ++ (putB n s).take (s - s)) 0 w from by simpa using EncPost.refl h)
          clear hbad h hp hown hne
          rcases hq' with hq | ⟨hq1, hq2, hq3⟩
          all_goals
            go_enter Try.func51, Try.ntmps51
            go_wp2_with (first | (go_at_call 82; refine (may_any _ _).mono ?_; rintro e w' ⟨rfl, rfl⟩) | (go_at_call 63; refine (amount_any _ _).mono ?_; rintro e w' ⟨rfl, rfl⟩))
            go_loopw [6] (fun i wr => ∃ j : Int, -1 ≤ j ∧ j < s ∧ i = .int .i64 j ∧ EncPost 138 w p v (bs ++ (putB n s).take (s - (j + 1).toNat)) 0 wr) (fun i _ => (intOf i + 1).toNat)
            case atStart => exact ⟨(s : Int) - 1, by omega, by omega, rfl, by rw [show ((s : Int) - 1 + 1).toNat = s by omega]; exact H0.out⟩
            case round =>
              obtain ⟨j, hj1, hj2, rfl, v', hE, hK, hF⟩ := hrel
              by_cases hj : 0 ≤ j
              · obtain ⟨m, rfl⟩ := Int.eq_ofNat_of_zero_le hj
                rw [show ((m : Int) + 1).toNat = m + 1 by omega] at hE
                have HT := Lib.hid (putB_take n s m (by omega))
                have hE' := hE
                obtain ⟨hp', hown', hne'⟩ := hE'
                have k0 := blk_cell hp' 0
                have k0f := blk_frozen hp' 0
                simp only [List.getElem?_toArray, List.getElem?_cons_zero] at k0
                have hL : (bs ++ (putB n s).take (s - (m + 1))).length + 1 ≤ 140737488355328 := by simp [putB_length]; omega
                generalize hbb : bs ++ (putB n s).take (s - (m + 1)) = bb at *
                have HBB := Lib.hid hbb
                have HE := Lib.hid hE
                have HOWN := Lib.hid hown'
                have HNE := Lib.hid hne'
                have hpw := blk_lt hp'
                have hmin : min (8 * m) 64 = 8 * m := by omega
                clear hbb hE hown' hp' hne'
                have hw8 : IntKind.i64.wrap (8 * (m : Int)) = 8 * (m : Int) := IntWalk.i64_in _ (by omega)
                have hw9 : (0 : Int) ≤ 8 * (m : Int) := by omega
                have hw10 : (8 * (m : Int)).toNat = 8 * m := by omega
                go_wp2_with fail
                go_region_law
                  ((refine step_append_lies _ (by rfl) _ _ _ (by rfl) 0 5 i0 _ 1 1 Try.underlying29 hi hz0 hz1 hz2 rfl (by omega) v' bb.length (bb.map (Value.int .u8)) (by rfl) ((HOWN.out.alloc _)) ⟨wr.heap.size, 0, none⟩ 1 1 [.int .u8 (IntKind.u8.wrap (n / 2 ^ (8 * m)))] (by rfl) (by rfl) (World.news_of_block (cs := #[.int .u8 (IntKind.u8.wrap (n / 2 ^ (8 * m)))]) (t := 5) (fr := (0, 0)) (heap_alloc_new _ _)) (by simp [Value.oneCell']) (by omega) (by unfold maxLen; omega) (by omega) (by omega) (wr.heap.size + 1) (by simp) ?_; intro gg cap w1 hown1 hgrow hat hlt; have k1 : w1.cell? ⟨p, 0, none⟩ = some v' := ((hgrow.cell_far _ (by simp; omega) (Ne.symm HNE.out)).trans ((World.cell?_alloc_past _ _ _ hpw).trans k0)); have k1f : w1.frozen? ⟨p, 0, none⟩ = false := ((hgrow.frozen_far _ (by simp; omega) (Ne.symm HNE.out)).trans ((World.frozen?_alloc_past _ _ _ hpw).trans k0f))))
                all_goals
                  have R := Lib.hid (EncPost.trans hK hF (enc_app (zs := [IntKind.u8.wrap (n / 2 ^ (8 * m))]) (wa := (wr.alloc (.cells #[.int .u8 (IntKind.u8.wrap (n / 2 ^ (8 * m)))] 5)).drew) HE.out (((Keeps.refl _ wr).alloc _).drew) (by simpa using hown1) hgrow (fun g hg => by
                    simp only [Value.ownBlock, Option.some.injEq] at hg
                    subst hg
                    rcases hat with h | h
                    · exact Or.inl h
                    · exact Or.inr (by omega))))
                  clear hown1 hgrow hat hF hK
                  go_wp2
                  go_roundw
                  case rel =>
                    refine ⟨(m : Int) - 1, by omega, by omega, rfl, ?_⟩
                    have h1 := R.out
                    rw [← HBB.out, List.append_assoc] at h1
                    rw [show ((m : Int) - 1 + 1).toNat = m by omega, HT.out, ← HBB.out]
                    exact h1
                  case measure => simp [intOf] <;> omega
              · have HR : Hid (EncPost 138 w p v (encNum bs 0 n s).1 (encNum bs 0 n s).2 wr) := by
                  rw [HN.out]
                  have e1 : (j + 1).toNat = 0 := by omega
                  rw [e1, Nat.sub_zero, List.take_of_length_le (by simp [putB_length])] at hE
                  exact Lib.hid ⟨v', hE, hK, hF⟩
                clear hE hK hF
                go_wp2
                go_end0
                exact ⟨rfl, HR.out⟩
      · simp at ha
        have HN : fitsB n s = false := by simp [fitsB, ha]
        have HP := Lib.hid (hbad HN)
        clear hbad h hp hown hne
        go_enter Try.func51, Try.ntmps51
        go_wp2_with (first | (go_at_call 82; refine (may_any _ _).mono ?_; rintro e w' ⟨rfl, rfl⟩) | (go_at_call 63; refine (amount_any _ _).mono ?_; rintro e w' ⟨rfl, rfl⟩))
        refine bodyPost_ret (results_none rfl _ _ _) rfl ⟨rfl, HP.out⟩
    · simp at hm
      have HN : fitsB n size = false := by simp [fitsB, hm]
      have HP := Lib.hid (hbad HN)
      clear hbad h hp hown hne
      go_enter Try.func51, Try.ntmps51
      go_wp2_with (first | (go_at_call 82; refine (may_any _ _).mono ?_; rintro e w' ⟨rfl, rfl⟩) | (go_at_call 63; refine (amount_any _ _).mono ?_; rintro e w' ⟨rfl, rfl⟩))
      refine bodyPost_ret (results_none rfl _ _ _) rfl ⟨rfl, HP.out⟩
  · have he' : (e != 0) = true := by simp [he]
    have hN := Lib.hid (show encNum bs e n size = (bs, e) by simp [encNum, he])
    have HP : Hid (EncPost 138 w p v bs e w) := Lib.hid (EncPost.refl h)
    clear he h hp hown hne
    go_enter Try.func51, Try.ntmps51
    go_wp2
    refine bodyPost_ret (results_none rfl _ _ _) rfl ⟨rfl, ?_⟩
    rw [hN.out]; exact HP.out

end Go.Proofs.Ytbhoakohpfdeoaa
