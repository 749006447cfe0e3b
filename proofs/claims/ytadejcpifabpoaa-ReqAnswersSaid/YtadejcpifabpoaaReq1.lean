/- Contracts of package req's writer: num, number, text, has, done. -/
import Derived.Test.YtadejcpifabpoaaBuf
import Derived.Test.YtadejcpifabpoaaEnc2
namespace Go.Proofs.Ytadejcpifabpoaa
open Go.RowKit
set_option linter.unusedVariables false

/-- What out.num lays. -/
def numOut (st : List Int × Bool) (n size : Int) : List Int × Bool := if fitsB n size = true then (st.1 ++ putB n size.toNat, st.2) else (st.1, true)
theorem encNum_0 (n size : Int) : encNum [] 0 n size = if fitsB n size then (putB n size.toNat, 0) else ([], 1) := by simp [encNum]

set_option maxHeartbeats 1000000 in
theorem out_num (p : Nat) (v : Value) (bs : List Int) (bad : Bool) (n size : Int) (w : World) (h : BufAt 80 w p v bs (.bool bad)) (hlen : bs.length + 8 ≤ 140737488355328) :
    Calls Try.prog 51 #[.pointer (some ⟨p, 0, none⟩), .int .i64 n, .int .i64 size] w fun en w' => en = .returned (.tuple #[]) ∧ BufPost 80 w p v (numOut (bs, bad) n size).1 (.bool (numOut (bs, bad) n size).2) w' := by
  have H := Lib.hid h
  have HN : Hid (∃ ob oe, encNum [] 0 n size = (ob, oe) ∧ ob.length ≤ 8 ∧ (doneB ob oe).length ≤ 8 ∧ ((oe = 0 ∧ numOut (bs, bad) n size = (bs ++ doneB ob oe, bad)) ∨ (oe = 1 ∧ numOut (bs, bad) n size = (bs ++ doneB ob oe, true)))) := Lib.hid (by
    rw [encNum_0]
    by_cases hf : fitsB n size = true
    · have hs : mayB size = true := by simp only [fitsB, Bool.and_eq_true] at hf; exact hf.1.1
      simp only [mayB, decide_eq_true_eq] at hs
      exact ⟨_, _, if_pos hf, by rw [putB_length]; omega, by simp [doneB, putB_length]; omega, Or.inl ⟨rfl, by simp [numOut, hf, doneB]⟩⟩
    · exact ⟨_, _, if_neg hf, Nat.zero_le _, by simp [doneB], Or.inr ⟨rfl, by simp [numOut, hf, doneB]⟩⟩)
  obtain ⟨ob, oe, he, hl8, hz8, hcase⟩ := HN.out
  have HE := Lib.hid he
  have HCS := Lib.hid hcase
  obtain ⟨i0, hi, hz0, hz1, hz2⟩ := info_parts Try_infoU8
  have hpl := blk_lt h.1
  clear h HN he hcase
  go_enter Try.func51, Try.ntmps51
  go_wp2_with fail
  refine (newEnc _).mono ?_
  rintro en w1 ⟨rfl, rfl⟩
  have HB1 := Lib.hid (show Below w.heap.size w (w.alloc (.cells #[.slice none 0 0, .int .i64 0] 135)) from (Below.refl _ _).alloc (Nat.le_refl _) _)
  have HA1 := Lib.hid (show EncAt 135 (w.alloc (.cells #[.slice none 0 0, .int .i64 0] 135)) w.heap.size (.slice none 0 0) [] 0 from ⟨heap_alloc_new w _, World.ownsRow_nil _ _ _ _, fun h => by cases h⟩)
  have hw1 : w.heap.size ≤ (w.alloc (.cells #[.slice none 0 0, .int .i64 0] 135)).heap.size := by simp
  generalize w.alloc (.cells #[.slice none 0 0, .int .i64 0] 135) = w1 at *
  go_wp2_with fail
  refine (enc_num _ _ [] 0 n size _ HA1.out (by simp)).mono ?_
  rintro en w2 ⟨rfl, h2⟩
  rw [HE.out] at h2
  obtain ⟨v2, ha2, hk2, hf2⟩ := h2
  have HA2 := Lib.hid ha2
  have HB2 := Lib.hid (HB1.out.trans (hk2.below (B := w.heap.size) HB1.out.size (fun k hk => by rcases hk with rfl | hk; exact Nat.le_refl _; cases hk)))
  clear ha2 hk2 hf2
  go_wp2_with fail
  refine (enc_done _ _ _ _ _ HA2.out (by omega)).mono ?_
  rintro en w3 ⟨ao, cap, rfl, hr⟩
  have HB3 := Lib.hid (HB2.out.trans (hr.2.1.mono HB2.out.size))
  have HI3 := Lib.hid (owns_at hr.1).2.1
  have H3 := Lib.hid (H.out.below HB3.out)
  obtain ⟨k0, k1, k0f, k1f⟩ := H3.out.cells
  have HO3 := Lib.hid H3.out.2.1
  have hp3 := blk_lt H3.out.1
  clear hr
  generalize doneB ob oe = Z at *
  rcases HCS.out with ⟨rfl, hout⟩ | ⟨rfl, hout⟩
  all_goals
    have HOUT := Lib.hid hout
    clear hout
    have HNN := Lib.hid (fun e : ao = none => ints_none (e ▸ HI3.out))
    go_wp2_with (at_builtin; refine wpList_append_any rfl _ _ 41 rfl 5 i0 (.int .u8 0) 1 1 Try.underlying41 hi hz0 hz1 hz2 rfl (by decide) v bs.length (bs.map (Value.int .u8)) rfl HO3.out ao _ cap _ rfl ?c1 (fun e => HNN.out e) (src_ints HI3.out) (ints_one _ _) ?c5 ?c6 ?_)
    case c1 => simp
    case c5 => unfold maxLen; simp; omega
    case c6 => simp; omega
    intro ao' cap' w4 hown hgrow hat hnn
    have hne := H3.out.2.2
    have k4 : w4.cell? ⟨p, 0, none⟩ = some v := (hgrow.cell_far _ hp3 (Ne.symm hne)).trans k0
    have k4f : w4.frozen? ⟨p, 0, none⟩ = false := (hgrow.frozen_far _ hp3 (Ne.symm hne)).trans k0f
    have k41 : w4.cell? ⟨p, 1, none⟩ = some (.bool bad) := (hgrow.cell_far _ hp3 (Ne.symm hne)).trans k1
    have k41f : w4.frozen? ⟨p, 1, none⟩ = false := (hgrow.frozen_far _ hp3 (Ne.symm hne)).trans k1f
    have hp := buf_app (zs := Z) H3.out (Keeps.refl _ _) (by rw [List.map_append]; exact hown) hgrow (fun g hg => (hat g hg).imp id (fun e => by omega))
    obtain ⟨v5, h5, k5, f5⟩ := hp
    have HQ := Lib.hid (fun y => BufPost.trans ((Keeps.of_below (S := fpE p v) HB3.out).trans k5 (fun i hi => Or.inl hi)) (fun g hg => (f5 g hg).imp id (fun h => by have := HB3.out.size; omega)) (buf_set h5 y))
    clear h5 k5 f5 hown hgrow hat hnn k0 k1 k0f k1f
    cases bad
    all_goals
      go_wp2
      go_end0
      refine ⟨rfl, ?_⟩
      rw [HOUT.out]
      exact HQ.out _

end Go.Proofs.Ytadejcpifabpoaa
