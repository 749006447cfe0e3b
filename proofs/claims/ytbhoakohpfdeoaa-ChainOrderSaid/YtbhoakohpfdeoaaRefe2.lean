/- Contracts of cflref1's encoder: Put, Num, Raw, Bytes, Done. -/
import Derived.Test.YtbhoakohpfdeoaaRefe
namespace Go.Proofs.Ytbhoakohpfdeoaa
open Go.RowKit
set_option linter.unusedVariables false

set_option maxHeartbeats 2000000 in
theorem put_any (n : Int) (s : Nat) (w : World) (hs1 : 1 ≤ s) (hs8 : s ≤ 8) :
    Calls Try.prog 86 #[.int .i64 n, .int .i64 s] w fun e w' => RowPost w (putB n s) e w' := by
  obtain ⟨i0, hi, hz0, hz1, hz2⟩ := info_parts Try_infoU8
  have HL := Lib.hid (putB_length n s)
  go_enter Try.func86, Try.ntmps86
  go_wp2_with fail
  go_loopw [5, 6] (fun o i wr => ∃ j : Int, -1 ≤ j ∧ j < s ∧ i = .int .i64 j ∧ RowAt w o ((putB n s).take (s - (j + 1).toNat)) wr) (fun _ i _ => (intOf i + 1).toNat)
  case atStart => exact ⟨(s : Int) - 1, by omega, by omega, rfl, by rw [show ((s : Int) - 1 + 1).toNat = s by omega, Nat.sub_self]; exact ⟨World.ownsRow_nil _ _ _ _, Below.refl _ _, fun g hg => by cases hg⟩⟩
  case round =>
    obtain ⟨j, hj1, hj2, rfl, hown, hbel, hfr⟩ := hrel
    by_cases hj : 0 ≤ j
    · obtain ⟨m, rfl⟩ := Int.eq_ofNat_of_zero_le hj
      rw [show ((m : Int) + 1).toNat = m + 1 by omega] at hown
      have HT := Lib.hid (putB_take n s m (by omega))
      have HW := Lib.hid (show byteAt n m = n / 2 ^ (8 * m) % 256 from IntKind.wrap_u8 _)
      have hLL : ((putB n s).take (s - (m + 1))).length ≤ 8 := by simp [putB_length]; omega
      generalize (putB n s).take (s - (m + 1)) = bb at *
      have HO := Lib.hid hown
      have HB := Lib.hid hbel
      have HF := Lib.hid hfr
      have hmin : min (8 * m) 64 = 8 * m := by omega
      clear hown hbel hfr
      have hw8 : IntKind.i64.wrap (8 * (m : Int)) = 8 * (m : Int) := IntWalk.i64_in _ (by omega)
      have hw9 : (0 : Int) ≤ 8 * (m : Int) := by omega
      have hw10 : (8 * (m : Int)).toNat = 8 * m := by omega
      have hw11 : IntKind.u64.wrap (8 * (m : Int)) = 8 * (m : Int) := by rw [IntKind.wrap_u64]; exact Int.emod_eq_of_lt (by omega) (by omega)
      go_wp2_with (at_builtin; refine wpList_append_any rfl _ _ 29 rfl 5 i0 (.int .u8 0) 1 1 Try.underlying29 hi hz0 hz1 hz2 rfl (by decide) u5 bb.length (bb.map (Value.int .u8)) rfl (HO.out.alloc _) (some ⟨wr.heap.size, 0, none⟩) 1 1 [.int .u8 (n / 2 ^ (8 * m) % 256)] rfl rfl ?c2 ?c3 ?c4 ?c5 ?c6 ?_)
      case c2 => intro e; cases e
      case c3 => intro ad had; cases had; exact World.news_of_block (heap_alloc_new _ _)
      case c4 => simp [Value.oneCell']
      case c5 => unfold maxLen; omega
      case c6 => omega
      intro ao' cap' w1 hown1 hgrow hat hnn
      have R : Hid (RowAt w (.slice ao' (bb.length + 1) cap') (bb ++ [n / 2 ^ (8 * m) % 256]) w1) := Lib.hid (by
        refine ⟨by simpa using hown1, (HB.out.alloc HB.out.size _).grown hgrow (by have := HB.out.size; simp; omega) (fun k hk => HF.out k hk), fun g hg => ?_⟩
        rcases hat g hg with h | h
        · exact HF.out g h
        · have := HB.out.size; omega)
      clear hown1 hgrow hat hnn
      go_wp2
      go_roundw
      case rel => exact ⟨(m : Int) - 1, by omega, by omega, rfl, by rw [show ((m : Int) - 1 + 1).toNat = m by omega, HT.out, HW.out]; exact R.out⟩
      case measure => simp [intOf] <;> omega
    · have e1 : (j + 1).toNat = 0 := by omega
      rw [e1, Nat.sub_zero, List.take_of_length_le (by rw [HL.out]; exact Nat.le_refl _)] at hown
      have hf : ∃ ao cap, u5 = .slice ao (putB n s).length cap := by
        rcases hown.2 with ⟨hv, hn⟩ | ⟨g, cap, cur, hv, _⟩
        · exact ⟨none, 0, by rw [hv, hn]⟩
        · exact ⟨_, cap, hv⟩
      obtain ⟨ao, cap, rfl⟩ := hf
      have R : Hid (RowAt w (.slice ao (putB n s).length cap) (putB n s) wr) := Lib.hid ⟨hown, hbel, hfr⟩
      clear hown hbel hfr
      go_wp2
      go_ret
      exact ⟨ao, cap, rfl, R.out⟩

def refFail (e n : Int) : Int := if e = 0 then n else e
def refNum (bs : List Int) (e n size : Int) : List Int × Int := if fitsB n size then (bs ++ putB n size.toNat, e) else (bs, refFail e 1)
def refBytes (bs : List Int) (e : Int) (zs : List Int) : List Int × Int := if 65535 < zs.length then (bs, refFail e 3) else (bs ++ putB zs.length 2 ++ zs, e)

set_option maxHeartbeats 400000 in
theorem fail_any (p : Nat) (v : Value) (bs : List Int) (e n : Int) (w : World) (h : EncAt 105 w p v bs e) :
    Calls Try.prog 85 #[.pointer (some ⟨p, 0, none⟩), .int .i64 n] w fun en w' => en = .returned (.tuple #[]) ∧ EncPost 105 w p v bs (refFail e n) w' := by
  have c1 := blk_cell h.1 1
  have f1 := blk_frozen h.1 1
  simp only [List.getElem?_toArray, List.getElem?_cons_zero, List.getElem?_cons_succ] at c1
  by_cases he : e = 0
  · subst he
    have HP := Lib.hid (show EncPost 105 w p v bs (refFail 0 n) _ from enc_err h n)
    clear h
    go_enter Try.func85, Try.ntmps85
    go_wp2
    go_end0
    exact ⟨rfl, HP.out⟩
  · have he' : (e == 0) = false := by simp [he]
    have HP : Hid (EncPost 105 w p v bs (refFail e n) w) := Lib.hid (by rw [show refFail e n = e by simp [refFail, he]]; exact EncPost.refl h)
    clear he h
    go_enter Try.func85, Try.ntmps85
    go_wp2
    go_end0
    exact ⟨rfl, HP.out⟩

set_option maxHeartbeats 1000000 in
theorem raw_any (p : Nat) (v : Value) (bs : List Int) (e : Int) (w : World) (h : EncAt 105 w p v bs e) (ao : Option Addr) (zs : List Int) (n cap : Nat) (hn : zs.length = n) (hz : IntsAt .u8 w ao zs) (hlen : bs.length + n ≤ 140737488355328) :
    Calls Try.prog 53 #[.pointer (some ⟨p, 0, none⟩), .slice ao n cap] w fun en w' => en = .returned (.tuple #[]) ∧ EncPost 105 w p v (bs ++ zs) e w' := by
  have H := Lib.hid h
  have HO := Lib.hid h.2.1
  have HNE := Lib.hid h.2.2
  have HP := Lib.hid h.1
  have HZ := Lib.hid hz
  have HN := Lib.hid hn
  have hpl := blk_lt h.1
  have k0 := blk_cell h.1 0
  simp only [List.getElem?_toArray, List.getElem?_cons_zero] at k0
  obtain ⟨i0, hi, hz0, hz1, hz2⟩ := info_parts Try_infoU8
  clear h hz hn
  go_enter Try.func53, Try.ntmps53
  go_wp2_with (at_builtin; refine wpList_append_any rfl _ _ 29 rfl 5 i0 (.int .u8 0) 1 1 Try.underlying29 hi hz0 hz1 hz2 rfl (by decide) v bs.length (bs.map (Value.int .u8)) rfl HO.out ao n cap (zs.map (Value.int .u8)) rfl ?c1 ?c2 ?c3 (ints_one _ _) ?c5 ?c6 ?_)
  case c1 => simp; exact HN.out
  case c2 => intro e; have := HZ.out; rw [e] at this; have := ints_none this; have := HN.out; omega
  case c3 => exact src_ints HZ.out
  case c5 => unfold maxLen; omega
  case c6 => omega
  intro ao' cap' w2 hown hgrow hat hnn
  have hp2 : w2.heap[p]? = some (.cells #[v, .int .i64 e] 105 (0, 0)) := (hgrow.block p hpl (fun e => HNE.out e.symm)).trans HP.out
  have q0 := blk_cell hp2 0
  have q0f := blk_frozen hp2 0
  simp only [List.getElem?_toArray, List.getElem?_cons_zero] at q0
  have HR := Lib.hid (enc_app (zs := zs) (wa := w) H.out (Keeps.refl _ _) (by simpa using hown) hgrow (fun g hg => (hat g hg).imp id (fun e => by omega)))
  clear hown hgrow hat hnn hp2
  go_wp2
  go_end0
  exact ⟨rfl, HR.out⟩

set_option maxHeartbeats 1000000 in
theorem refnum_any (p : Nat) (v : Value) (bs : List Int) (e n size : Int) (w : World) (h : EncAt 105 w p v bs e) (hlen : bs.length + 8 ≤ 140737488355328) :
    Calls Try.prog 54 #[.pointer (some ⟨p, 0, none⟩), .int .i64 n, .int .i64 size] w fun en w' => en = .returned (.tuple #[]) ∧ EncPost 105 w p v (refNum bs e n size).1 (refNum bs e n size).2 w' := by
  by_cases hf : fitsB n size = true
  · have hs : 1 ≤ size ∧ size ≤ 8 := Decidable.byContradiction fun hc => by rw [fitsB_not n size hc] at hf; cases hf
    obtain ⟨s, rfl⟩ := Int.eq_ofNat_of_zero_le (show 0 ≤ size by omega)
    have HF := Lib.hid hf
    have HR := Lib.hid (show refNum bs e n s = (bs ++ putB n s, e) by simp [refNum, hf])
    have H := Lib.hid h
    have HO := Lib.hid h.2.1
    have HNE := Lib.hid h.2.2
    have HP := Lib.hid h.1
    have hpl := blk_lt h.1
    have HPL := Lib.hid (putB_length n s)
    have k0 := blk_cell h.1 0
    have k0f := blk_frozen h.1 0
    simp only [List.getElem?_toArray, List.getElem?_cons_zero] at k0
    obtain ⟨i0, hi, hz0, hz1, hz2⟩ := info_parts Try_infoU8
    clear h hf
    go_enter Try.func54, Try.ntmps54
    go_wp2_with fail
    refine (fits_any n s w).mono ?_
    rintro en w' ⟨rfl, rfl⟩
    rw [HF.out]
    go_wp2_with fail
    go_region_law (first | (go_simp; go_at_call 86; refine (put_any n s _ (by omega) (by omega)).mono ?_; rintro en w1 ⟨ao1, cap1, rfl, hr⟩; have HRW := Lib.hid hr; have HBW := Lib.hid hr.2.1; have hownA := ownsRow_same HO.out (fun g hg => hr.2.1.block g (HO.out.lt g hg).2); have hzA := (owns_at hr.1).2.1; have HNN := Lib.hid (fun e : ao1 = none => show (putB n s).length = 0 by (have h7 := hzA; rw [e] at h7; exact ints_none h7)); have k1 : w1.cell? ⟨p, 0, none⟩ = some v := (hr.2.1.cell (p := ⟨p, 0, none⟩) (by simpa using hpl)).trans k0; have k1f : w1.frozen? ⟨p, 0, none⟩ = false := (hr.2.1.frozen (p := ⟨p, 0, none⟩) (by simpa using hpl)).trans k0f; have h1l := hr.2.1.size; simp at h1l; clear hr) | (refine step_append_any (by rfl) _ _ 29 (by rfl) 5 i0 _ 1 1 Try.underlying29 hi hz0 hz1 hz2 rfl (by decide) v bs.length (bs.map (Value.int .u8)) (by rfl) hownA ao1 (putB n s).length cap1 ((putB n s).map (Value.int .u8)) (by rfl) (by simp) (fun e => HNN.out e) (src_ints hzA) (ints_one _ _) (by have := HPL.out; unfold maxLen; omega) (by have := HPL.out; omega) ?_; intro ao2 cap2 w2 hown2 hgrow hat hnn; have k2 : w2.cell? ⟨p, 0, none⟩ = some v := ((hgrow.cell_far _ (show p < w1.heap.size by omega) (Ne.symm HNE.out)).trans k1); have k2f : w2.frozen? ⟨p, 0, none⟩ = false := ((hgrow.frozen_far _ (show p < w1.heap.size by omega) (Ne.symm HNE.out)).trans k1f)))
    all_goals
      have R := Lib.hid (enc_app (zs := putB n s) (wa := w1) H.out ((Keeps.refl _ w).drew.trans (Keeps.of_below (S := fun _ => False) HBW.out) (fun _ (f : False) => f.elim)) (by simpa using hown2) hgrow (fun g hg => (hat g hg).imp id (fun e => by omega)))
      clear hown2 hgrow hat hnn
      go_wp2
      go_end0
      exact ⟨rfl, by rw [HR.out]; exact R.out⟩
  · simp at hf
    have HF := Lib.hid hf
    have HR := Lib.hid (show refNum bs e n size = (bs, refFail e 1) by simp [refNum, hf])
    have HC := Lib.hid (fail_any p v bs e 1 w h)
    clear h hf
    go_enter Try.func54, Try.ntmps54
    go_wp2_with fail
    refine (fits_any n size w).mono ?_
    rintro en w' ⟨rfl, rfl⟩
    rw [HF.out]
    go_wp2_with fail
    refine HC.out.mono ?_
    rintro en w1 ⟨rfl, hp⟩
    have HP := Lib.hid hp
    clear hp
    go_wp2
    refine bodyPost_ret (results_none rfl _ _ _) rfl ⟨rfl, ?_⟩
    rw [HR.out]; exact HP.out


theorem refnum_len (bs : List Int) (e : Int) (n : Nat) (h : n ≤ 65535) : refNum bs e n 2 = (bs ++ putB n 2, e) := by simp [refNum, fits_len n h]

set_option maxHeartbeats 1000000 in
theorem refdone_any (p : Nat) (ao : Option Addr) (cap : Nat) (bs : List Int) (e : Int) (w : World) (h : EncAt 105 w p (.slice ao bs.length cap) bs e) :
    Calls Try.prog 77 #[.pointer (some ⟨p, 0, none⟩)] w fun en w' => (∃ ao cap, en = .returned (.tuple #[.slice ao (doneB bs e).length cap, .int .i64 e]) ∧ IntsAt .u8 w ao (doneB bs e)) ∧ Below w.heap.size w w' := by
  obtain ⟨hp, hown, hne⟩ := h
  have c0 := blk_cell hp 0
  have c1 := blk_cell hp 1
  simp only [List.getElem?_toArray, List.getElem?_cons_zero, List.getElem?_cons_succ] at c0 c1
  by_cases he : e = 0
  · subst he
    have HI := Lib.hid (owns_at hown).2.1
    clear hp hown hne
    go_enter Try.func77, Try.ntmps77
    go_wp2
    go_ret2
    exact ⟨⟨ao, cap, by simp [doneB], by simpa [doneB] using HI.out⟩, by repeat (first | exact Below.refl _ _ | exact Keeps.below ((Keeps.refl (fun _ => False) _).drewN _) (Nat.le_refl _) (fun _ f => f.elim))⟩
  · have he' : (e != 0) = true := by simp [he]
    have HD := Lib.hid (show doneB bs e = [] by simp [doneB, he])
    clear he hp hown hne
    go_enter Try.func77, Try.ntmps77
    go_wp2
    go_quiet (fail)
    go_wp2
    go_ret2
    rw [HD.out]
    exact ⟨⟨none, 0, rfl, Or.inl rfl⟩, by repeat (first | exact Below.refl _ _ | exact Keeps.below ((Keeps.refl (fun _ => False) _).drewN _) (Nat.le_refl _) (fun _ f => f.elim))⟩
theorem enc_form {T : TypeId} {w : World} {p : Nat} {v : Value} {bs : List Int} {e : Int} (h : EncAt T w p v bs e) : ∃ ao cap, v = .slice ao bs.length cap := by
  rcases h.2.1.2 with ⟨hv, hn⟩ | ⟨g, cap, cur, hv, _⟩
  · exact ⟨none, 0, by rw [hv, hn]⟩
  · exact ⟨_, cap, hv⟩

end Go.Proofs.Ytbhoakohpfdeoaa
