/- Parts of the proof: Refe Refp Refe2 Refq Rsz Refs Refd Refd2 Refg Refh. -/
import Derived.Test.YtkaciaehlibidaaGreatZ07
import Derived.Test.YtkaciaehlibidaaGreatZ09
import Derived.Test.YtkaciaehlibidaaGreatZ11
import Derived.Test.YtkaciaehlibidaaGreatZ12
import Derived.Lib.ConvBytes
namespace Go.Proofs.YtkaciaehlibidaaGreat
open Go.RowKit
set_option linter.unusedVariables false
set_option linter.unusedSimpArgs false
theorem fitsB_small (n : Int) (s : Nat) (h1 : 1 ≤ s) (h8 : s < 8) : fitsB n s = decide (0 ≤ n ∧ n ≤ 4611686018427387904 ∧ n < 2 ^ (8 * s)) := by
 have hm : mayB s = true := by simp [mayB]; omega
 have hn8 : ¬ (8 : Int) ≤ s := by omega
 have hp : (0 : Int) < 2 ^ (8 * s) := Int.pow_pos (by decide)
 by_cases ha : amtB n = true
 · have ha' := (amt_iff n).1 ha
   unfold MA at ha'
   by_cases hlt : n < 2 ^ (8 * s)
   · have : n / 2 ^ (8 * s) ≤ 0 := by rw [Int.ediv_eq_zero_of_lt ha'.1 hlt]; exact Int.le_refl _
     simp [fitsB, hm, ha, this, hlt]; omega
   · have : ¬ n / 2 ^ (8 * s) ≤ 0 := by
      intro h
      have := (Int.le_ediv_iff_mul_le hp (a := 1) (b := n)).2 (by omega)
      omega
     simp [fitsB, hm, ha, this, hlt]; omega
 · have : ¬ (0 ≤ n ∧ n ≤ 4611686018427387904) := fun h => ha ((amt_iff n).2 (by unfold MA; exact h))
   simp [fitsB, ha]; omega
theorem fitsB_8 (n : Int) : fitsB n 8 = decide (0 ≤ n ∧ n ≤ 4611686018427387904) := by
 have hm : mayB 8 = true := by simp [mayB]
 by_cases ha : amtB n = true
 · have ha' := (amt_iff n).1 ha
   unfold MA at ha'
   simp [fitsB, hm, ha]; omega
 · have : ¬ (0 ≤ n ∧ n ≤ 4611686018427387904) := fun h => ha ((amt_iff n).2 (by unfold MA; exact h))
   simp [fitsB, ha]; omega
theorem fitsB_not (n size : Int) (h : ¬ (1 ≤ size ∧ size ≤ 8)) : fitsB n size = false := by
 have : mayB size = false := by simp [mayB]; omega
 simp [fitsB, this]
set_option maxHeartbeats 2000000 in
theorem fits_any (n size : Int) (w : World) :
 Calls Tryz.prog 81 #[.int .i64 n, .int .i64 size] w fun e w' => e = .returned (.bool (fitsB n size)) ∧ w = w' := by
 by_cases hs : 1 ≤ size ∧ size ≤ 8
 · obtain ⟨s, rfl⟩ := Int.eq_ofNat_of_zero_le (show 0 ≤ size by omega)
   by_cases h8 : s = 8
   · subst h8
     have HF := Lib.hid (fitsB_8 n)
     go_enter Tryz.func81, Tryz.ntmps81
     go_wp2
     all_goals
      go_ret
      exact ⟨ret_bool (by refine Eq.trans ?_ HF.out.symm; first | (rw [decide_eq_decide]; simp only [Nat.reduceMul, Int.reducePow]; omega) | (rw [decide_eq_decide]; omega) | (simp; done) | (simp; omega)), rfl⟩
   · have HF := Lib.hid (fitsB_small n s (by omega) (by omega))
     have h7 : s = 1 ∨ s = 2 ∨ s = 3 ∨ s = 4 ∨ s = 5 ∨ s = 6 ∨ s = 7 := by omega
     clear hs h8
     rcases h7 with rfl | rfl | rfl | rfl | rfl | rfl | rfl
     all_goals
      go_enter Tryz.func81, Tryz.ntmps81
      go_wp2
      all_goals
       go_ret
       exact ⟨ret_bool (by refine Eq.trans ?_ HF.out.symm; first | (rw [decide_eq_decide]; simp only [Nat.reduceMul, Int.reducePow]; omega) | (rw [decide_eq_decide]; omega) | (simp; done) | (simp; omega)), rfl⟩
 · have HF := Lib.hid (fitsB_not n size hs)
   have hs' : size < 1 ∨ (1 ≤ size ∧ 8 < size) := by omega
   clear hs
   rcases hs' with hs | ⟨hs, hs2⟩
   all_goals
    go_enter Tryz.func81, Tryz.ntmps81
    go_wp2
    all_goals
     go_ret
     exact ⟨ret_bool HF.out.symm, rfl⟩
theorem byteB_fits (n : Int) : byteB n = fitsB n 1 := by
 have h := fitsB_small n 1 (by omega) (by omega)
 have e : (((1 : Nat) : Int)) = 1 := rfl
 rw [e] at h
 rw [h]
 unfold byteB
 rw [Bool.eq_iff_iff]
 simp
 omega
theorem amt_fits (n : Int) : amtB n = fitsB n 8 := by
 rw [fitsB_8]
 rw [Bool.eq_iff_iff, amt_iff]
 unfold MA
 simp
theorem id_fits (n : Int) : (0 ≤ n ∧ n ≤ 65535) ↔ fitsB n 2 = true := by
 have h := fitsB_small n 2 (by omega) (by omega)
 have e : (((2 : Nat) : Int)) = 2 := rfl
 rw [e] at h
 rw [h]
 simp
 omega
theorem fits0 : fitsB 0 1 = true ∧ fitsB 0 2 = true ∧ fitsB 0 8 = true ∧ tickB 0 = true := by decide
theorem emptyB_is (s : ByteArray) : emptyB s = true ↔ s = ⟨#[]⟩ := ⟨emptyB_eq s, fun h => by rw [h]; exact emptyB_nil⟩
theorem tick_fits (n : Int) (h : tickB n = true) : fitsB n 8 = true := by
 rw [← amt_fits, amt_iff]
 rw [tick_iff] at h
 unfold MA
 unfold MT at h
 omega
theorem mayRQ_ok (r : RQ) : mayRQ r = okE false r.ev := by
 obtain ⟨k, t, a, n, i, d, h, s⟩ := r
 obtain ⟨f1, f2, f3, f4⟩ := fits0
 have f5 : (0 : Int) ≤ 65535 := by decide
 have f6 := tick_fits d
 rw [Bool.eq_iff_iff]
 unfold mayRQ okE RQ.ev xReq
 by_cases h1 : k = 1
 · subst h1
   simp [eqRQ_iff, byteB_fits, amt_fits, emptyB_is, ← id_fits]
   constructor
   · intro g; simp_all
   · intro g; simp_all
 by_cases h2 : k = 2
 · subst h2
   simp [eqRQ_iff, byteB_fits, amt_fits, emptyB_is, ← id_fits]
   constructor
   · intro g; simp_all
   · intro g; simp_all
 by_cases h3 : k = 3
 · subst h3
   simp [eqRQ_iff, byteB_fits, amt_fits, emptyB_is, ← id_fits]
   constructor
   · intro g; simp_all
   · intro g; simp_all
 by_cases h4 : k = 4
 · subst h4
   simp [eqRQ_iff, byteB_fits, amt_fits, emptyB_is, ← id_fits]
   constructor
   · intro g; simp_all
   · intro g; simp_all
 · simp [h1, h2, h3, h4]
theorem mayEV_ok (r : EV) : mayEV r = okE true r := by
 obtain ⟨k, f, t, a, n, i, d, h, s⟩ := r
 obtain ⟨f1, f2, f3, f4⟩ := fits0
 have f5 : (0 : Int) ≤ 65535 := by decide
 have f6 := tick_fits d
 rw [Bool.eq_iff_iff]
 unfold mayEV okE xEv
 by_cases h1 : k = 1
 · subst h1
   simp [eqEV_iff, byteB_fits, amt_fits, emptyB_is, ← id_fits]
   constructor
   · intro g; simp_all
   · intro g; simp_all
 by_cases h2 : k = 2
 · subst h2
   simp [eqEV_iff, byteB_fits, amt_fits, emptyB_is, ← id_fits]
   constructor
   · intro g; simp_all
   · intro g; simp_all
 by_cases h3 : k = 3
 · subst h3
   simp [eqEV_iff, byteB_fits, amt_fits, emptyB_is, ← id_fits]
   constructor
   · intro g; simp_all
   · intro g; simp_all
 by_cases h4 : k = 4
 · subst h4
   simp [eqEV_iff, byteB_fits, amt_fits, emptyB_is, ← id_fits]
   constructor
   · intro g; simp_all
   · intro g; simp_all
 · simp [h1, h2, h3, h4]
set_option maxHeartbeats 2000000 in
theorem put_any (n : Int) (s : Nat) (w : World) (hs1 : 1 ≤ s) (hs8 : s ≤ 8) :
 Calls Tryz.prog 83 #[.int .i64 n, .int .i64 s] w fun e w' => RowPost w (putB n s) e w' := by
 obtain ⟨i0, hi, hz0, hz1, hz2⟩ := info_parts Try_infoU8
 have HL := Lib.hid (putB_length n s)
 go_enter Tryz.func83, Tryz.ntmps83
 go_wp2_with fail
 go_loopw [5, 6] (fun o i wr => ∃ j : Int, -1 ≤ j ∧ j < s ∧ i = .int .i64 j ∧ RowAt w o ((putB n s).take (s - (j + 1).toNat)) wr) (fun _ i _ => (intOf i + 1).toNat)
 case atStart => exact ⟨(s : Int) - 1, by omega, by omega, rfl, by rw [show ((s : Int) - 1 + 1).toNat = s by omega, Nat.sub_self]; exact ⟨World.ownsRow_nil _ _ _ _, Below.refl _ _, fun g hg => by cases hg⟩⟩
 case round =>
  obtain ⟨j, hj1, hj2, rfl, hown, hbel, hfr⟩ := hrel
  by_cases hj : 0 ≤ j
  · obtain ⟨m, rfl⟩ := Int.eq_ofNat_of_zero_le hj
    rw [show ((m : Int) + 1).toNat = m + 1 by omega] at hown
    have HT := Lib.hid (putB_take n s m (by omega))
    have HW := Lib.hid (show byteAt n m = n / 2 ^ (8 * m) % 256 from IntKind.wrap_u8 _)
    have hLL : ((putB n s).take (s - (m + 1))).length ≤ 8 := by simp [putB_length]; omega
    generalize (putB n s).take (s - (m + 1)) = bb at *
    have HO := Lib.hid hown
    have HB := Lib.hid hbel
    have HF := Lib.hid hfr
    have hmin : min (8 * m) 64 = 8 * m := by omega
    clear hown hbel hfr
    have hw8 : IntKind.i64.wrap (8 * (m : Int)) = 8 * (m : Int) := IntWalk.i64_in _ (by omega)
    have hw9 : (0 : Int) ≤ 8 * (m : Int) := by omega
    have hw10 : (8 * (m : Int)).toNat = 8 * m := by omega
    have hw11 : IntKind.u64.wrap (8 * (m : Int)) = 8 * (m : Int) := by rw [IntKind.wrap_u64]; exact Int.emod_eq_of_lt (by omega) (by omega)
    go_wp2_with (at_builtin; refine wpList_append_any rfl _ _ 62 rfl 5 i0 (.int .u8 0) 1 1 Tryz.underlying62 hi hz0 hz1 hz2 rfl (by decide) u5 bb.length (bb.map (Value.int .u8)) rfl (HO.out.alloc _) (some ⟨wr.heap.size, 0, none⟩) 1 1 [.int .u8 (n / 2 ^ (8 * m) % 256)] rfl rfl ?c2 ?c3 ?c4 ?c5 ?c6 ?_)
    case c2 => intro e; cases e
    case c3 => intro ad had; cases had; exact World.news_of_block (heap_alloc_new _ _)
    case c4 => simp [Value.oneCell']
    case c5 => unfold maxLen; omega
    case c6 => omega
    intro ao' cap' w1 hown1 hgrow hat hnn
    have R : Hid (RowAt w (.slice ao' (bb.length + 1) cap') (bb ++ [n / 2 ^ (8 * m) % 256]) w1) := Lib.hid (by
     refine ⟨by simpa using hown1, (HB.out.alloc HB.out.size _).grown hgrow (by have := HB.out.size; simp; omega) (fun k hk => HF.out k hk), fun g hg => ?_⟩
     rcases hat g hg with h | h
     · exact HF.out g h
     · have := HB.out.size; omega)
    clear hown1 hgrow hat hnn
    go_wp2
    go_roundw
    case rel => exact ⟨(m : Int) - 1, by omega, by omega, rfl, by rw [show ((m : Int) - 1 + 1).toNat = m by omega, HT.out, HW.out]; exact R.out⟩
    case measure => simp [intOf] <;> omega
  · have e1 : (j + 1).toNat = 0 := by omega
    rw [e1, Nat.sub_zero, List.take_of_length_le (by rw [HL.out]; exact Nat.le_refl _)] at hown
    have hf : ∃ ao cap, u5 = .slice ao (putB n s).length cap := by
     rcases hown.2 with ⟨hv, hn⟩ | ⟨g, cap, cur, hv, _⟩
     · exact ⟨none, 0, by rw [hv, hn]⟩
     · exact ⟨_, cap, hv⟩
    obtain ⟨ao, cap, rfl⟩ := hf
    have R : Hid (RowAt w (.slice ao (putB n s).length cap) (putB n s) wr) := Lib.hid ⟨hown, hbel, hfr⟩
    clear hown hbel hfr
    go_wp2
    go_ret
    exact ⟨ao, cap, rfl, R.out⟩
def refFail (e n : Int) : Int := if e = 0 then n else e
def refNum (bs : List Int) (e n size : Int) : List Int × Int := if fitsB n size then (bs ++ putB n size.toNat, e) else (bs, refFail e 1)
set_option maxHeartbeats 400000 in
theorem fail_any (p : Nat) (v : Value) (bs : List Int) (e n : Int) (w : World) (h : EncAt 129 w p v bs e) :
 Calls Tryz.prog 82 #[.pointer (some ⟨p, 0, none⟩), .int .i64 n] w fun en w' => en = .returned (.tuple #[]) ∧ EncPost 129 w p v bs (refFail e n) w' := by
 have c1 := blk_cell h.1 1
 have f1 := blk_frozen h.1 1
 simp only [lq] at c1
 by_cases he : e = 0
 · subst he
   have HP := Lib.hid (show EncPost 129 w p v bs (refFail 0 n) _ from enc_err h n)
   clear h
   go_enter Tryz.func82, Tryz.ntmps82
   go_wp2
   go_end0
   exact ⟨rfl, HP.out⟩
 · have he' : (e == 0) = false := by simp [he]
   have HP : Hid (EncPost 129 w p v bs (refFail e n) w) := Lib.hid (by rw [show refFail e n = e by simp [refFail, he]]; exact EncPost.refl h)
   clear he h
   go_enter Tryz.func82, Tryz.ntmps82
   go_wp2
   go_end0
   exact ⟨rfl, HP.out⟩
set_option maxHeartbeats 1000000 in
theorem raw_any (p : Nat) (v : Value) (bs : List Int) (e : Int) (w : World) (h : EncAt 129 w p v bs e) (ao : Option Addr) (zs : List Int) (n cap : Nat) (hn : zs.length = n) (hz : IntsAt .u8 w ao zs) (hlen : bs.length + n ≤ 140737488355328) :
 Calls Tryz.prog 84 #[.pointer (some ⟨p, 0, none⟩), .slice ao n cap] w fun en w' => en = .returned (.tuple #[]) ∧ EncPost 129 w p v (bs ++ zs) e w' := by
 have H := Lib.hid h
 have HO := Lib.hid h.2.1
 have HNE := Lib.hid h.2.2
 have HP := Lib.hid h.1
 have HZ := Lib.hid hz
 have HN := Lib.hid hn
 have hpl := blk_lt h.1
 have k0 := blk_cell h.1 0
 simp only [List.getElem?_toArray, List.getElem?_cons_zero] at k0
 obtain ⟨i0, hi, hz0, hz1, hz2⟩ := info_parts Try_infoU8
 clear h hz hn
 go_enter Tryz.func84, Tryz.ntmps84
 go_wp2_with (at_builtin; refine wpList_append_any rfl _ _ 62 rfl 5 i0 (.int .u8 0) 1 1 Tryz.underlying62 hi hz0 hz1 hz2 rfl (by decide) v bs.length (bs.map (Value.int .u8)) rfl HO.out ao n cap (zs.map (Value.int .u8)) rfl ?c1 ?c2 ?c3 (ints_one _ _) ?c5 ?c6 ?_)
 case c1 => simp; exact HN.out
 case c2 => intro e; have := HZ.out; rw [e] at this; have := ints_none this; have := HN.out; omega
 case c3 => exact src_ints HZ.out
 case c5 => unfold maxLen; omega
 case c6 => omega
 intro ao' cap' w2 hown hgrow hat hnn
 have hp2 : w2.heap[p]? = some (.cells #[v, .int .i64 e] 129 (0, 0)) := (hgrow.block p hpl (fun e => HNE.out e.symm)).trans HP.out
 have q0 := blk_cell hp2 0
 have q0f := blk_frozen hp2 0
 simp only [List.getElem?_toArray, List.getElem?_cons_zero] at q0
 have HR := Lib.hid (enc_app (zs := zs) (wa := w) H.out (Keeps.refl _ _) (by simpa using hown) hgrow (fun g hg => (hat g hg).imp id (fun e => by omega)))
 clear hown hgrow hat hnn hp2
 go_wp2
 go_end0
 exact ⟨rfl, HR.out⟩
set_option maxHeartbeats 1000000 in
theorem refnum_any (p : Nat) (v : Value) (bs : List Int) (e n size : Int) (w : World) (h : EncAt 129 w p v bs e) (hlen : bs.length + 8 ≤ 140737488355328) :
 Calls Tryz.prog 52 #[.pointer (some ⟨p, 0, none⟩), .int .i64 n, .int .i64 size] w fun en w' => en = .returned (.tuple #[]) ∧ EncPost 129 w p v (refNum bs e n size).1 (refNum bs e n size).2 w' := by
 by_cases hf : fitsB n size = true
 · have hs : 1 ≤ size ∧ size ≤ 8 := Decidable.byContradiction fun hc => by rw [fitsB_not n size hc] at hf; cases hf
   obtain ⟨s, rfl⟩ := Int.eq_ofNat_of_zero_le (show 0 ≤ size by omega)
   have HF := Lib.hid hf
   have HR := Lib.hid (show refNum bs e n s = (bs ++ putB n s, e) by simp [refNum, hf])
   have H := Lib.hid h
   have HO := Lib.hid h.2.1
   have HNE := Lib.hid h.2.2
   have HP := Lib.hid h.1
   have hpl := blk_lt h.1
   have HPL := Lib.hid (putB_length n s)
   have k0 := blk_cell h.1 0
   have k0f := blk_frozen h.1 0
   simp only [List.getElem?_toArray, List.getElem?_cons_zero] at k0
   obtain ⟨i0, hi, hz0, hz1, hz2⟩ := info_parts Try_infoU8
   clear h hf
   go_enter Tryz.func52, Tryz.ntmps52
   go_wp2_with fail
   refine (fits_any n s w).mono ?_
   rintro en w' ⟨rfl, rfl⟩
   rw [HF.out]
   go_wp2_with fail
   go_region_law (first | (go_simp; go_at_call 83; refine (put_any n s _ (by omega) (by omega)).mono ?_; rintro en w1 ⟨ao1, cap1, rfl, hr⟩; have HRW := Lib.hid hr; have HBW := Lib.hid hr.2.1; have hownA := ownsRow_same HO.out (fun g hg => hr.2.1.block g (HO.out.lt g hg).2); have hzA := (owns_at hr.1).2.1; have HNN := Lib.hid (fun e : ao1 = none => show (putB n s).length = 0 by (have h7 := hzA; rw [e] at h7; exact ints_none h7)); have k1 : w1.cell? ⟨p, 0, none⟩ = some v := (hr.2.1.cell (p := ⟨p, 0, none⟩) (by simpa using hpl)).trans k0; have k1f : w1.frozen? ⟨p, 0, none⟩ = false := (hr.2.1.frozen (p := ⟨p, 0, none⟩) (by simpa using hpl)).trans k0f; have h1l := hr.2.1.size; simp at h1l; clear hr) | (refine step_append_any (by rfl) _ _ 62 (by rfl) 5 i0 _ 1 1 Tryz.underlying62 hi hz0 hz1 hz2 rfl (by decide) v bs.length (bs.map (Value.int .u8)) (by rfl) hownA ao1 (putB n s).length cap1 ((putB n s).map (Value.int .u8)) (by rfl) (by simp) (fun e => HNN.out e) (src_ints hzA) (ints_one _ _) (by have := HPL.out; unfold maxLen; omega) (by have := HPL.out; omega) ?_; intro ao2 cap2 w2 hown2 hgrow hat hnn; have k2 : w2.cell? ⟨p, 0, none⟩ = some v := ((hgrow.cell_far _ (show p < w1.heap.size by omega) (Ne.symm HNE.out)).trans k1); have k2f : w2.frozen? ⟨p, 0, none⟩ = false := ((hgrow.frozen_far _ (show p < w1.heap.size by omega) (Ne.symm HNE.out)).trans k1f)))
   all_goals
    have R := Lib.hid (enc_app (zs := putB n s) (wa := w1) H.out ((Keeps.refl _ w).drew.trans (Keeps.of_below (S := fun _ => False) HBW.out) (fun _ (f : False) => f.elim)) (by simpa using hown2) hgrow (fun g hg => (hat g hg).imp id (fun e => by omega)))
    clear hown2 hgrow hat hnn
    go_wp2
    go_end0
    exact ⟨rfl, by rw [HR.out]; exact R.out⟩
 · simp at hf
   have HF := Lib.hid hf
   have HR := Lib.hid (show refNum bs e n size = (bs, refFail e 1) by simp [refNum, hf])
   have HC := Lib.hid (fail_any p v bs e 1 w h)
   clear h hf
   go_enter Tryz.func52, Tryz.ntmps52
   go_wp2_with fail
   refine (fits_any n size w).mono ?_
   rintro en w' ⟨rfl, rfl⟩
   rw [HF.out]
   go_wp2_with fail
   refine HC.out.mono ?_
   rintro en w1 ⟨rfl, hp⟩
   have HP := Lib.hid hp
   clear hp
   go_wp2
   refine bodyPost_ret (results_none rfl _ _ _) rfl ⟨rfl, ?_⟩
   rw [HR.out]; exact HP.out
set_option maxHeartbeats 1000000 in
theorem refdone_any (p : Nat) (ao : Option Addr) (cap : Nat) (bs : List Int) (e : Int) (w : World) (h : EncAt 129 w p (.slice ao bs.length cap) bs e) :
 Calls Tryz.prog 54 #[.pointer (some ⟨p, 0, none⟩)] w fun en w' => (∃ ao cap, en = .returned (.tuple #[.slice ao (doneB bs e).length cap, .int .i64 e]) ∧ IntsAt .u8 w ao (doneB bs e)) ∧ Below w.heap.size w w' := by
 obtain ⟨hp, hown, hne⟩ := h
 have c0 := blk_cell hp 0
 have c1 := blk_cell hp 1
 simp only [lq] at c0 c1
 by_cases he : e = 0
 · subst he
   have HI := Lib.hid (owns_at hown).2.1
   clear hp hown hne
   go_enter Tryz.func54, Tryz.ntmps54
   go_wp2
   go_ret2
   exact ⟨⟨ao, cap, by simp [doneB], by simpa [doneB] using HI.out⟩, by repeat (first | exact Below.refl _ _ | exact Keeps.below ((Keeps.refl (fun _ => False) _).drewN _) (Nat.le_refl _) (fun _ f => f.elim))⟩
 · have he' : (e != 0) = true := by simp [he]
   have HD := Lib.hid (show doneB bs e = [] by simp [doneB, he])
   clear he hp hown hne
   go_enter Tryz.func54, Tryz.ntmps54
   go_wp2
   go_quiet (fail)
   go_wp2
   go_ret2
   rw [HD.out]
   exact ⟨⟨none, 0, rfl, Or.inl rfl⟩, by repeat (first | exact Below.refl _ _ | exact Keeps.below ((Keeps.refl (fun _ => False) _).drewN _) (Nat.le_refl _) (fun _ f => f.elim))⟩
theorem enc_form {T : TypeId} {w : World} {p : Nat} {v : Value} {bs : List Int} {e : Int} (h : EncAt T w p v bs e) : ∃ ao cap, v = .slice ao bs.length cap := by
 rcases h.2.1.2 with ⟨hv, hn⟩ | ⟨g, cap, cur, hv, _⟩
 · exact ⟨none, 0, by rw [hv, hn]⟩
 · exact ⟨_, cap, hv⟩
theorem bytes_belowR (w : World) (e : TypeId) (s : ByteArray) : Below w.heap.size w (Lib.bytesWorld w e s) :=
 ⟨rfl, rfl, rfl, by rw [Lib.bytesWorld_size]; omega, fun k hk => Lib.bytesWorld_at_old w e s k hk⟩
theorem bytes_intsR (w : World) (e : TypeId) (s : ByteArray) : IntsAt .u8 (Lib.bytesWorld w e s) (some ⟨w.heap.size, 0, none⟩) (strNums s) :=
 Or.inr ⟨w.heap.size, 0, rfl, fun i hi => by
  rw [strNums_length] at hi
  rw [Nat.zero_add, Lib.bytesWorld_cell w e s i hi]
  congr 2
  unfold strNums
  simp [List.getD, hi]⟩
structure Putting (w1 wr : World) (p : Nat) (v v' : Value) (X : Nat) (cs : Array Value) (T : TypeId) (bs : List Int) : Prop where
 enc : EncAt 129 wr p v' bs 0
 keep : Keeps (fpE p v) w1 wr
 fresh : ∀ g, v'.ownBlock = some g → v.ownBlock = some g ∨ w1.heap.size ≤ g
 box : wr.heap[X]? = some (.cells cs T (0, 0))
 xp : X ≠ p
 xv : v.ownBlock ≠ some X
 xl : X < w1.heap.size
section
variable {w1 wr w' : World} {p X : Nat} {v v' : Value} {cs : Array Value} {T : TypeId} {bs bs' : List Int}
theorem Putting.notX (h : Putting w1 wr p v v' X cs T bs) : ¬ fpE p v' X := by
 rintro (hf | hf)
 · exact h.xp hf
 · rcases h.fresh X hf with h1 | h1
   · exact h.xv h1
   · have := h.xl; omega
theorem Putting.step (h : Putting w1 wr p v v' X cs T bs) (hp : EncPost 129 wr p v' bs' 0 w') : ∃ v2, Putting w1 w' p v v2 X cs T bs' := by
 have hn := h.notX
 obtain ⟨v2, a1, a2, a3⟩ := EncPost.trans h.keep h.fresh hp
 obtain ⟨_, _, b2, _⟩ := hp
 exact ⟨v2, a1, a2, a3, (b2.block X (blk_lt h.box) hn).trans h.box, h.xp, h.xv, h.xl⟩
theorem Putting.below (h : Putting w1 wr p v v' X cs T bs) (hb : Below wr.heap.size wr w') : Putting w1 w' p v v' X cs T bs :=
 ⟨h.enc.keep (Keeps.of_below (S := fun _ => False) hb) (fun _ _ f => f), h.keep.trans (Keeps.of_below (S := fun _ => False) hb) (fun _ f => f.elim), h.fresh, (hb.block X (blk_lt h.box)).trans h.box, h.xp, h.xv, h.xl⟩
theorem Putting.done (h : Putting w1 wr p v v' X cs T bs) : EncPost 129 w1 p v bs 0 wr := ⟨v', h.enc, h.keep, h.fresh⟩
end
theorem Putting.start {w : World} {p : Nat} {v : Value} {bs : List Int} (h : EncAt 129 w p v bs 0) (cs : Array Value) (T : TypeId) : Putting (w.alloc (.cells cs T)) (w.alloc (.cells cs T)) p v v w.heap.size cs T bs :=
 have hb : Below w.heap.size w (w.alloc (.cells cs T)) := (Below.refl _ _).alloc (Nat.le_refl _) _
 ⟨h.keep (Keeps.of_below (S := fun _ => False) hb) (fun _ _ f => f), Keeps.refl _ _, fun _ hg => Or.inl hg, heap_alloc_new _ _, (by have := h.lt p (Or.inl rfl); omega), (fun e => by have := h.lt w.heap.size (Or.inr e); omega), (by simp)⟩
theorem put_out {w w' : World} {p : Nat} {v : Value} {bs : List Int} {o : Obj} (h : EncPost 129 (w.alloc o) p v bs 0 w') : EncPost 129 w p v bs 0 w' :=
 EncPost.trans (Keeps.of_below ((Below.refl _ _).alloc (Nat.le_refl _) _)) (fun _ hg => Or.inl hg) h
theorem refNum_ok1 (bs : List Int) (n : Int) (h : fitsB n 1 = true) : refNum bs 0 n 1 = (bs ++ putB n 1, 0) := by
 unfold refNum; rw [if_pos h]; rfl
theorem refNum_ok2 (bs : List Int) (n : Int) (h : fitsB n 2 = true) : refNum bs 0 n 2 = (bs ++ putB n 2, 0) := by
 unfold refNum; rw [if_pos h]; rfl
theorem refNum_ok8 (bs : List Int) (n : Int) (h : fitsB n 8 = true) : refNum bs 0 n 8 = (bs ++ putB n 8, 0) := by
 unfold refNum; rw [if_pos h]; rfl
theorem strNums_nil : strNums ⟨#[]⟩ = [] := rfl

def REncPost (w : World) (r : List Int × Int) (e : Ending) (w' : World) : Prop := ∃ ao cap, e = .returned (.tuple #[.slice ao r.1.length cap, .int .i64 r.2]) ∧ IntsAt .u8 w' ao r.1 ∧ Below w.heap.size w w'
def RE (W w : World) (p : Nat) (bs : List Int) : Prop := ∃ v, EncAt 129 w p v bs 0 ∧ Below W.heap.size W w ∧ W.heap.size ≤ p ∧ ∀ g, v.ownBlock = some g → W.heap.size ≤ g
theorem RE.of_post {W w w' : World} {p : Nat} {v : Value} {bs : List Int} (hb : Below W.heap.size W w) (hp : W.heap.size ≤ p) (hf : ∀ g, v.ownBlock = some g → W.heap.size ≤ g) (h : EncPost 129 w p v bs 0 w') : RE W w' p bs := by
 obtain ⟨v2, h1, h2, h3⟩ := h
 refine ⟨v2, h1, hb.trans (h2.below (B := W.heap.size) hb.size (fun i hi => ?_)), hp, fun g hg => ?_⟩
 · rcases hi with rfl | hi
   · omega
   · have := hf i hi; omega
 · rcases h3 g hg with h | h
   · exact hf g h
   · have := hb.size; omega
theorem enc_new (w : World) : EncAt 129 (w.alloc (.cells #[.slice none 0 0, .int .i64 0] 129)) w.heap.size (.slice none 0 0) [] 0 :=
 ⟨heap_alloc_new _ _, World.ownsRow_nil _ _ _ _, fun e => nomatch e⟩
theorem RE.new {W w : World} (hb : Below W.heap.size W w) : RE W (w.alloc (.cells #[.slice none 0 0, .int .i64 0] 129)) w.heap.size [] :=
 ⟨_, enc_new w, hb.alloc hb.size _, hb.size, fun g hg => nomatch hg⟩
theorem RE.base {W w : World} {p : Nat} {bs : List Int} (h : RE W w p bs) : Below W.heap.size W w := by obtain ⟨_, _, h, _⟩ := h; exact h
theorem RE.num {W w : World} {p : Nat} {bs : List Int} (h : RE W w p bs) (n : Int) (s : Int) (hs : s = 1 ∨ s = 2 ∨ s = 8) (hf : fitsB n s = true) (hlen : bs.length + 8 ≤ 140737488355328) :
 Calls Tryz.prog 52 #[.pointer (some ⟨p, 0, none⟩), .int .i64 n, .int .i64 s] w fun en w' => en = .returned (.tuple #[]) ∧ RE W w' p (bs ++ putB n s.toNat) := by
 obtain ⟨v, h1, h2, h3, h4⟩ := h
 refine (refnum_any p v bs 0 n s w h1 hlen).mono ?_
 rintro en w' ⟨rfl, hp⟩
 have e : refNum bs 0 n s = (bs ++ putB n s.toNat, 0) := by unfold refNum; rw [if_pos hf]
 rw [e] at hp
 exact ⟨rfl, RE.of_post h2 h3 h4 hp⟩
theorem RE.done {W w : World} {p : Nat} {bs : List Int} (h : RE W w p bs) :
 Calls Tryz.prog 54 #[.pointer (some ⟨p, 0, none⟩)] w fun en w' => (∃ ao cap, en = .returned (.tuple #[.slice ao bs.length cap, .int .i64 0]) ∧ IntsAt .u8 w' ao bs) ∧ Below W.heap.size W w' := by
 obtain ⟨v, h1, h2, h3, h4⟩ := h
 obtain ⟨ao, cap, rfl⟩ := enc_form h1
 refine (refdone_any p ao cap bs 0 w h1).mono ?_
 rintro en w' ⟨⟨ao2, cap2, rfl, hi⟩, hb⟩
 have e : doneB bs 0 = bs := by simp [doneB]
 rw [e] at hi ⊢
 exact ⟨⟨ao2, cap2, rfl, ints_below hi hb⟩, h2.trans (hb.mono h2.size)⟩
set_option maxHeartbeats 400000 in
theorem refdec_end (p g : Nat) (zs : List Int) (e : Int) (w : World) (h : DecAt 119 w p g zs e) :
 Calls Tryz.prog 49 #[.pointer (some ⟨p, 0, none⟩)] w fun en w' => en = .returned (.int .i64 (decEnd zs e)) ∧ w = w' := by
 obtain ⟨ao, cap, h1, h2, h3, h4, h5, h6, h7, h8⟩ := h
 have c0 := blk_cell h1 0
 have c1 := blk_cell h1 1
 simp only [lq] at c0 c1
 clear h1 h2 h5 h7
 by_cases he : e = 0
 · subst he
   by_cases hl : zs.length = 0
   · have HD := Lib.hid (show decEnd zs 0 = 0 by simp [decEnd, hl])
     have hl' : ¬ (0 : Int) < (zs.length : Int) := by omega
     clear hl
     go_enter Tryz.func49, Tryz.ntmps49
     go_wp2
     go_ret
     exact ⟨ret_int HD.out.symm, rfl⟩
   · have HD := Lib.hid (show decEnd zs 0 = 2 by simp [decEnd, hl])
     have hl' : (0 : Int) < (zs.length : Int) := by omega
     clear hl
     go_enter Tryz.func49, Tryz.ntmps49
     go_wp2
     go_ret
     exact ⟨ret_int HD.out.symm, rfl⟩
 · have HD := Lib.hid (show decEnd zs e = e by simp [decEnd, he])
   have he' : (e == 0) = false := by simp [he]
   clear he
   go_enter Tryz.func49, Tryz.ntmps49
   go_wp2
   go_ret
   exact ⟨ret_int HD.out.symm, rfl⟩
set_option maxHeartbeats 2000000 in
theorem refdec_num (p g : Nat) (zs : List Int) (e size : Int) (w : World) (h : DecAt 119 w p g zs e) :
 Calls Tryz.prog 45 #[.pointer (some ⟨p, 0, none⟩), .int .i64 size] w (NumPost 119 w p g (decNum zs e size)) := by
 have h' := h
 obtain ⟨ao, cap, h1, h2, h3, h4, h5, h6, h7, h8⟩ := h'
 have c0 := blk_cell h1 0
 have c1 := blk_cell h1 1
 have f0 := blk_frozen h1 0
 have f1 := blk_frozen h1 1
 simp only [lq] at c0 c1
 by_cases he : e = 0
 · subst he
   by_cases hm : 1 ≤ size ∧ size ≤ 8
   · obtain ⟨s, rfl⟩ := Int.eq_ofNat_of_zero_le (show 0 ≤ size by omega)
     obtain ⟨hs1, hs2⟩ := hm
     by_cases hl : (zs.length : Int) < (s : Int)
     · have HD := Lib.hid (show decNum zs 0 s = (0, zs, 2) by (have hm8 : mayB (s : Int) = true := by (simp [mayB]; omega)); simp [decNum, numF, hm8, hl])
       have HP := Lib.hid (dec_err h 2)
       clear h h1 h2 h5 h7 h8
       go_enter Tryz.func45, Tryz.ntmps45
       go_wp2
       go_ret
       exact ⟨ret_int (congrArg Prod.fst HD.out).symm, by rw [HD.out]; exact HP.out⟩
     · have hm8 : mayB (s : Int) = true := by simp [mayB]; omega
       have HF := Lib.hid (show numF zs s = if MA < valB (zs.take s) then (0, 2) else (valB (zs.take s), 0) by simp [numF, hm8, hl])
       have HBX := Lib.hid h5
       have HI := Lib.hid h2
       have hle : (s : Int) ≤ (zs.length : Int) := by omega
       have HPE := Lib.hid (dec_err h 2)
       have HC := Lib.hid (fun ao' n' cap' hv hn' => dec_cut h s (by omega) ao' n' cap' hv hn')
       clear h h1 h2 h5 h7 h8 hm8 hl
       go_enter Tryz.func45, Tryz.ntmps45
       go_wp2_with fail
       go_loop [5, 6] (fun t i => ∃ k : Nat, k ≤ s ∧ i = .int .i64 k ∧ t = .int .u64 (valB (zs.take k))) (fun _ i => s - (intOf i).toNat)
       case atStart => exact ⟨0, Nat.zero_le _, rfl, rfl⟩
       case round =>
        obtain ⟨k, hk, rfl, rfl⟩ := hrel
        have hv := valB_in (zs.take k) (fun z hz => HBX.out z (List.mem_of_mem_take hz))
        rw [List.length_take, Nat.min_eq_left (by omega)] at hv
        obtain ⟨hv1, hv2⟩ := hv
        by_cases hlt : k < s
        · have hkn : k < zs.length := by omega
          obtain ⟨b, off, ha, hc⟩ := ints_cell HI.out k hkn
          have hcb := HBX.out zs[k] (List.getElem_mem hkn)
          have HS := Lib.hid (show valB (zs.take (k + 1)) = valB (zs.take k) * 256 + zs[k] by rw [List.take_succ_eq_append_getElem hkn, valB_snoc])
          have hp := pow256 k (by omega)
          have h56 : valB (zs.take k) < 72057594037927936 := by omega
          have hor := or_byte (valB (zs.take k)) zs[k] hv1 h56 hcb
          have hsh : IntKind.u64.wrap (valB (zs.take k) * 256) = valB (zs.take k) * 256 := by rw [IntKind.wrap_u64]; omega
          have hcu : IntKind.u64.wrap zs[k] = zs[k] := by rw [IntKind.wrap_u64]; omega
          obtain ⟨hc1, hc2⟩ := hcb
          generalize valB (zs.take k) = x at *
          generalize zs[k] = c at *
          subst ha
          have i0 : (0 : Int) ≤ (k : Int) := by omega
          have i1 : (k : Int) < (zs.length : Int) := by omega
          have i2 : (k : Int) < (s : Int) := by omega
          clear hp hv2
          go_wp2
          go_round
          case rel => exact ⟨k + 1, by omega, by go_num, by rw [HS.out]⟩
          case measure => simp [intOf]; omega
        · obtain rfl : k = s := by omega
          have hw : valB (zs.take k) < 18446744073709551616 := by
           rcases Nat.lt_or_ge k 8 with h | h
           · have := pow256 k (by omega); omega
           · obtain rfl : k = 8 := by omega
             have : (256 : Int) ^ 8 = 18446744073709551616 := by decide
             omega
          have hF := HF.out
          unfold MA at hF
          generalize valB (zs.take k) = x at *
          clear hv2
          by_cases hx : 4611686018427387904 < x
          · rw [if_pos hx] at hF
            have HD := Lib.hid (show decNum zs 0 k = (0, zs, 2) by simp [decNum, hF])
            clear hF
            go_wp2
            go_ret
            exact ⟨ret_int (congrArg Prod.fst HD.out).symm, by rw [HD.out]; exact HPE.out⟩
          · rw [if_neg hx] at hF
            have HD := Lib.hid (show decNum zs 0 k = (x, zs.drop k, 0) by simp [decNum, hF])
            have hxw : IntKind.i64.wrap x = x := IntWalk.i64_in _ (by omega)
            clear hF
            go_wp2
            all_goals
             go_ret
             refine ⟨ret_int (congrArg Prod.fst HD.out).symm, ?_⟩
             rw [HD.out]
             refine HC.out _ _ _ (fun ao2 cap2 hc2 => ?_) (by omega)
             rw [c0] at hc2
             simp only [Option.some.injEq, Value.slice.injEq, true_and] at hc2
             obtain ⟨rfl, rfl⟩ := hc2
             first | exact Or.inr ⟨rfl, rfl⟩ | exact Or.inl ⟨by omega, rfl, by omega⟩
   · have HD := Lib.hid (show decNum zs 0 size = (0, zs, 1) by (have : mayB size = false := by (simp [mayB]; omega)); simp [decNum, numF, this])
     have HP := Lib.hid (dec_err h 1)
     have hs' : size < 1 ∨ (1 ≤ size ∧ 8 < size) := by omega
     clear h h1 h2 h5 h7 h8 hm
     rcases hs' with hs | ⟨hs, hs2⟩
     all_goals
      go_enter Tryz.func45, Tryz.ntmps45
      go_wp2
      go_ret
      exact ⟨ret_int (congrArg Prod.fst HD.out).symm, by rw [HD.out]; exact HP.out⟩
 · have he' : (e == 0) = false := by simp [he]
   have he2 : (e != 0) = true := by simp [he]
   have HD := Lib.hid (show decNum zs e size = (0, zs, e) by simp [decNum, he])
   have HP := Lib.hid (dec_refl h)
   clear h h1 h2 h5 h7 h8 he
   go_enter Tryz.func45, Tryz.ntmps45
   go_wp2
   go_ret
   exact ⟨ret_int (congrArg Prod.fst HD.out).symm, by rw [HD.out]; exact HP.out⟩
def decRaw (zs : List Int) (e n : Int) : List Int × List Int × Int :=
 if e = 0 then (if n < 0 ∨ (zs.length : Int) < n then ([], zs, 2) else (zs.take n.toNat, zs.drop n.toNat, 0)) else ([], zs, e)
set_option maxHeartbeats 2000000 in
theorem refdec_raw (p g : Nat) (zs : List Int) (e n : Int) (w : World) (h : DecAt 119 w p g zs e) :
 Calls Tryz.prog 76 #[.pointer (some ⟨p, 0, none⟩), .int .i64 n] w (BytesPost 119 w p g (decRaw zs e n)) := by
 have h' := h
 obtain ⟨ao, cap, h1, h2, h3, h4, h5, h6, h7, h8⟩ := h'
 have c0 := blk_cell h1 0
 have c1 := blk_cell h1 1
 have f0 := blk_frozen h1 0
 have f1 := blk_frozen h1 1
 simp only [lq] at c0 c1
 by_cases he : e = 0
 · subst he
   by_cases hn : 0 ≤ n ∧ n ≤ (zs.length : Int)
   · obtain ⟨m, rfl⟩ := Int.eq_ofNat_of_zero_le hn.1
     have hml : (m : Int) ≤ (zs.length : Int) := hn.2
     have hmc : (m : Int) ≤ (cap : Int) := by omega
     have HD := Lib.hid (show decRaw zs 0 m = (zs.take m, zs.drop m, 0) by simp [decRaw]; omega)
     have hlen : (zs.take m).length = m := by simp; omega
     have HC := Lib.hid (copyBytes ao (zs.take m) m cap w hlen (IntsAt.take h2 m) (by omega))
     have H := Lib.hid h
     have HL := Lib.hid hlen
     have hpl := DecAt.lt h
     unfold maxLen at h4
     clear h h1 h2 h5 h7 h8 hlen hn
     go_enter Tryz.func76, Tryz.ntmps76
     go_wp2_with fail
     refine HC.out.mono ?_
     rintro e w1 ⟨ao2, cap2, rfl, hr⟩
     obtain ⟨ho, hbl, hf⟩ := hr
     rw [HL.out] at ho hf
     rw [HL.out]
     have hd1 := H.out.keep (Keeps.of_below (S := fun _ => False) hbl) (fun f => f) (Or.inr (fun f => f))
     have hd1' := hd1
     obtain ⟨ao3, cap3, q1, q2, q3, q4, q5, q6, q7, q8⟩ := hd1'
     have k0 : w1.cell? ⟨p, 0, none⟩ = some (.slice ao zs.length cap) := (hbl.cell (p := ⟨p, 0, none⟩) hpl).trans c0
     have k0f := blk_frozen q1 0
     have HCUT := Lib.hid (fun ao' n' cap' hv hn' => bytes_done (R := zs.take m) hd1 hbl hpl ao2 cap2 HL.out ho hf m (by omega) ao' n' cap' hv hn')
     clear ho hf hbl hd1 q1 q2 q3 q4 q5 q6 q7 q8
     go_wp2
     all_goals
      go_ret
      rw [HD.out]
      refine HCUT.out _ _ _ (fun ao4 cap4 hc4 => ?_) (by omega)
      rw [k0] at hc4
      simp only [Option.some.injEq, Value.slice.injEq, true_and] at hc4
      obtain ⟨rfl, rfl⟩ := hc4
      first | exact Or.inr ⟨rfl, rfl⟩ | exact Or.inl ⟨by omega, rfl, by omega⟩
   · have HD := Lib.hid (show decRaw zs 0 n = ([], zs, 2) by simp [decRaw]; omega)
     have HP := Lib.hid (bytes_nil (dec_err h 2))
     have hs' : n < 0 ∨ (0 ≤ n ∧ (zs.length : Int) < n) := by omega
     clear h h1 h2 h5 h7 h8 hn
     rcases hs' with hs | ⟨hs, hs2⟩
     all_goals
      go_enter Tryz.func76, Tryz.ntmps76
      go_wp2
      go_ret
      rw [HD.out]; exact HP.out
 · have he' : (e == 0) = false := by simp [he]
   have he2 : (e != 0) = true := by simp [he]
   have HD := Lib.hid (show decRaw zs e n = ([], zs, e) by simp [decRaw, he])
   have HP := Lib.hid (bytes_nil (dec_refl h))
   clear h h1 h2 h5 h7 h8 he
   go_enter Tryz.func76, Tryz.ntmps76
   go_wp2
   go_ret
   rw [HD.out]; exact HP.out
abbrev DS := List Int × Int
def dN (z : Nat) (d : DS) : Int × DS := ((decNum d.1 d.2 z).1, (decNum d.1 d.2 z).2)
def dR (d : DS) : List Int × DS := ((decRaw d.1 d.2 32).1, (decRaw d.1 d.2 32).2)
structure GetAt (w0 wr : World) (p g R X : Nat) (T : TypeId) (zs cs : Array Value) (d : DS) : Prop where
 dec : DecAt 119 wr p g d.1 d.2
 keep : Keeps (fun i => i = p) w0 wr
 boxR : wr.heap[R]? = some (.cells zs T (0, 0))
 boxX : wr.heap[X]? = some (.cells cs T (0, 0))
 bR : w0.heap.size ≤ R
 bX : R < X
 pl : p < w0.heap.size
 gl : g < w0.heap.size
section
variable {w0 wr w' : World} {p g R X : Nat} {T : TypeId} {zs cs : Array Value} {d d' : DS}
theorem GetAt.read (h : GetAt w0 wr p g R X T zs cs d) {l : List Int} {e : Int} (hp : DecPost 119 wr p g l e w') : GetAt w0 w' p g R X T zs cs (l, e) := by
 have a1 := h.pl; have a2 := h.bR; have a3 := h.bX
 exact ⟨hp.1, h.keep.trans hp.2 (fun i hi => Or.inl hi), (hp.2.block R (blk_lt h.boxR) (by omega)).trans h.boxR, (hp.2.block X (blk_lt h.boxX) (by omega)).trans h.boxX, h.bR, h.bX, h.pl, h.gl⟩
theorem GetAt.set (h : GetAt w0 wr p g R X T zs cs d) (j : Nat) (u : Value) : GetAt w0 (wr.setCell ⟨X, j, none⟩ u) p g R X T zs (cs.setIfInBounds j u) d := by
 have a1 := h.pl; have a2 := h.bR; have a3 := h.bX; have a4 := h.gl
 have hk : Keeps (fun i => i = X) wr (wr.setCell ⟨X, j, none⟩ u) := (Keeps.refl (fun i => i = X) wr).setCell (p := ⟨X, j, none⟩) (Or.inl rfl) u
 exact ⟨h.dec.keep hk (by omega) (Or.inr (by omega)), h.keep.trans hk (fun i hi => Or.inr (by omega)), (hk.block R (blk_lt h.boxR) (by omega)).trans h.boxR, blk_set h.boxX j u, h.bR, h.bX, h.pl, h.gl⟩
theorem GetAt.cell (h : GetAt w0 wr p g R X T zs cs d) (j : Nat) : wr.cell? ⟨X, j, none⟩ = cs[j]? ∧ wr.frozen? ⟨X, j, none⟩ = false := ⟨blk_cell h.boxX j, blk_frozen h.boxX j⟩
theorem GetAt.cellR (h : GetAt w0 wr p g R X T zs cs d) (j : Nat) : wr.cell? ⟨R, j, none⟩ = zs[j]? ∧ wr.frozen? ⟨R, j, none⟩ = false := ⟨blk_cell h.boxR j, blk_frozen h.boxR j⟩
theorem GetAt.num (h : GetAt w0 wr p g R X T zs cs d) (z : Nat) : Calls Tryz.prog 45 #[.pointer (some ⟨p, 0, none⟩), .int .i64 z] wr fun e w' => e = .returned (.int .i64 (dN z d).1) ∧ GetAt w0 w' p g R X T zs cs (dN z d).2 := by
 refine (refdec_num p g d.1 d.2 z wr h.dec).mono ?_
 rintro e w' ⟨rfl, hp⟩
 exact ⟨rfl, h.read hp⟩
theorem GetAt.raw (h : GetAt w0 wr p g R X T zs cs d) : Calls Tryz.prog 76 #[.pointer (some ⟨p, 0, none⟩), .int .i64 32] wr fun e w' => (∃ ao cap, e = .returned (.slice ao (dR d).1.length cap) ∧ IntsAt .u8 w' ao (dR d).1) ∧ GetAt w0 w' p g R X T zs cs (dR d).2 := by
 refine (refdec_raw p g d.1 d.2 32 wr h.dec).mono ?_
 rintro e w' ⟨hp, ao, cap, rfl, ho, _⟩
 exact ⟨⟨ao, cap, rfl, (owns_at ho).2.1⟩, h.read hp⟩
end
def evxA (x : EV × DS) : EV × DS := if x.1.k < 3 then ({ x.1 with f := (dN 1 (x.2)).1, t := (dN 1 ((dN 1 (x.2)).2)).1, a := (dN 1 ((dN 1 ((dN 1 (x.2)).2)).2)).1, n := (dN 8 ((dN 1 ((dN 1 ((dN 1 (x.2)).2)).2)).2)).1 }, (dN 8 ((dN 1 ((dN 1 ((dN 1 (x.2)).2)).2)).2)).2) else x
def evxB (x : EV × DS) : EV × DS := if 1 < x.1.k then ({ x.1 with i := (dN 2 (x.2)).1 }, (dN 2 (x.2)).2) else x
def evxC (x : EV × DS) : EV × DS := if x.1.k = 2 then ({ x.1 with h := strOfNums (dR (x.2)).1, d := (dN 8 ((dR (x.2)).2)).1 }, (dN 8 ((dR (x.2)).2)).2) else x
def evxD (x : EV × DS) : EV × DS := if x.1.k = 3 then ({ x.1 with s := strOfNums (dR (x.2)).1 }, (dR (x.2)).2) else x
def evxGet (d : DS) : EV × DS := evxD (evxC (evxB (evxA ((⟨(dN 1 d).1, 0, 0, 0, 0, 0, 0, ⟨#[]⟩, ⟨#[]⟩⟩, (dN 1 d).2)))))
def evxPost (w : World) (p g : Nat) (d : DS) (e : Ending) (w' : World) : Prop := e = .returned (.agg (evxGet d).1.cells) ∧ DecAt 119 w' p g (evxGet d).2.1 (evxGet d).2.2 ∧ Keeps (fun i => i = p) w w'
set_option maxRecDepth 100000 in
set_option maxHeartbeats 4000000 in
theorem getEvent (p g : Nat) (d : DS) (w : World) (h : DecAt 119 w p g d.1 d.2) (hg : g < w.heap.size) :
 Calls Tryz.prog 46 #[.pointer (some ⟨p, 0, none⟩)] w (evxPost w p g d) := by
 obtain ⟨wR, hwR⟩ : ∃ wR, wR = w.alloc (.cells #[.int .i64 0, .int .i64 0, .int .i64 0, .int .i64 0, .int .i64 0, .int .i64 0, .int .i64 0, .string ⟨#[]⟩, .string ⟨#[]⟩] 55) := ⟨_, rfl⟩
 have HRB : Hid (Below w.heap.size w wR) := Lib.hid (by subst hwR; exact (Below.refl _ _).alloc (Nat.le_refl _) _)
 have HRX : Hid (wR.heap[w.heap.size]? = some (.cells #[.int .i64 0, .int .i64 0, .int .i64 0, .int .i64 0, .int .i64 0, .int .i64 0, .int .i64 0, .string ⟨#[]⟩, .string ⟨#[]⟩] 55 (0, 0))) := Lib.hid (by subst hwR; exact heap_alloc_new w _)
 have HD0 : Hid (DecAt 119 wR p g d.1 d.2) := Lib.hid (h.keep (Keeps.of_below (S := fun _ => False) HRB.out) (fun f => f) (Or.inr (fun f => f)))
 have hpl := h.lt
 have HG := Lib.hid hg
 have HWR := Lib.hid hwR
 have HGET := Lib.hid (show evxGet d = evxD (evxC (evxB (evxA ((⟨(dN 1 d).1, 0, 0, 0, 0, 0, 0, ⟨#[]⟩, ⟨#[]⟩⟩, (dN 1 d).2))))) from rfl)
 clear h hg hwR
 go_enter Tryz.func46, Tryz.ntmps46
 go_upto_region 1 with fail
 rw [← HWR.out]
 go_wp2_with fail
 refine (refdec_num p g d.1 d.2 1 wR HD0.out).mono ?_
 rintro e w2 ⟨rfl, hp2⟩
 have HP2 := Lib.hid hp2
 clear hp2
 obtain ⟨k0, hk0⟩ : ∃ k0, k0 = (decNum d.1 d.2 1).1 := ⟨_, rfl⟩
 rw [← hk0]
 have HK0 := Lib.hid (show (dN 1 d).1 = k0 from hk0.symm)
 clear hk0
 go_upto_region 2 with fail
 obtain ⟨w3, hw3⟩ : ∃ w3, w3 = w2.alloc (.cells (⟨k0, 0, 0, 0, 0, 0, 0, ⟨#[]⟩, ⟨#[]⟩⟩ : EV).cells 55) := ⟨_, rfl⟩
 have HX3 : Hid (GetAt w w3 p g w.heap.size w2.heap.size 55 #[.int .i64 0, .int .i64 0, .int .i64 0, .int .i64 0, .int .i64 0, .int .i64 0, .int .i64 0, .string ⟨#[]⟩, .string ⟨#[]⟩] (⟨k0, 0, 0, 0, 0, 0, 0, ⟨#[]⟩, ⟨#[]⟩⟩ : EV).cells (dN 1 d).2) := Lib.hid (by
  have hb : Below w2.heap.size w2 w3 := by rw [hw3]; exact (Below.refl _ _).alloc (Nat.le_refl _) _
  have h1 := HP2.out
  have h2 := blk_lt HRX.out
  have h3 := h1.2.size
  have h4 := (h1.2.block w.heap.size h2 (by omega)).trans HRX.out
  have k1 : Keeps (fun i => i = p) w wR := Keeps.of_below HRB.out
  have k3 : Keeps (fun i => i = p) w2 w3 := Keeps.of_below hb
  exact ⟨h1.1.keep (Keeps.of_below (S := fun _ => False) hb) (fun f => f) (Or.inr (fun f => f)), (k1.trans h1.2 (fun i hi => Or.inl hi)).trans k3 (fun i hi => Or.inl hi), (hb.block _ (blk_lt h4)).trans h4, by rw [hw3]; exact heap_alloc_new w2 _, Nat.le_refl _, blk_lt h4, hpl, HG.out⟩)
 unfold EV.cells at hw3
 rw [← hw3]
 clear hw3
 rw [HK0.out] at HGET
 generalize w2.heap.size = X at *
 generalize (dN 1 d).2 = d1 at *
 obtain ⟨r, hr⟩ : ∃ r : EV, r = ⟨k0, 0, 0, 0, 0, 0, 0, ⟨#[]⟩, ⟨#[]⟩⟩ := ⟨_, rfl⟩
 rw [← hr] at HX3 HGET
 have hrk : k0 = r.k := by rw [hr]
 rw [hrk] at *
 clear hr HRB HRX HD0 HWR HP2 HK0
 have c0 := (HX3.out.cell 0).1
 simp only [EV.cells, List.getElem?_toArray, List.getElem?_cons_zero] at c0
 go_upto_if 9 with fail
 have HBI0 : Hid ((decide (r.k < 3)) = true ↔ (r.k < 3)) := Lib.hid (by simp)
 generalize (decide (r.k < 3)) = B at *
 clear c0
 go_cut [] (fun wx => GetAt w wx p g w.heap.size X 55 #[.int .i64 0, .int .i64 0, .int .i64 0, .int .i64 0, .int .i64 0, .int .i64 0, .int .i64 0, .string ⟨#[]⟩, .string ⟨#[]⟩] (evxA (r, d1)).1.cells (evxA (r, d1)).2)
 case first =>
  cases B
  case' true =>
   have hc := HBI0.out.1 rfl
   have HS := Lib.hid (show evxA (r, d1) = ({ r with f := (dN 1 d1).1, t := (dN 1 ((dN 1 d1).2)).1, a := (dN 1 ((dN 1 ((dN 1 d1).2)).2)).1, n := (dN 8 ((dN 1 ((dN 1 ((dN 1 d1).2)).2)).2)).1 }, (dN 8 ((dN 1 ((dN 1 ((dN 1 d1).2)).2)).2)).2) from by unfold evxA; rw [if_pos hc])
   clear hc
   go_wp2_with fail
   refine (HX3.out.num 1).mono ?_
   rintro e wn1 ⟨rfl, hq1⟩
   have HQ1 := Lib.hid hq1
   clear hq1
   generalize dN 1 d1 = y1 at *
   go_wp2_with fail
   refine (HQ1.out.num 1).mono ?_
   rintro e wn2 ⟨rfl, hq2⟩
   have HQ2 := Lib.hid hq2
   clear hq2
   generalize dN 1 y1.2 = y2 at *
   go_wp2_with fail
   refine (HQ2.out.num 1).mono ?_
   rintro e wn3 ⟨rfl, hq3⟩
   have HQ3 := Lib.hid hq3
   clear hq3
   generalize dN 1 y2.2 = y3 at *
   go_wp2_with fail
   refine (HQ3.out.num 8).mono ?_
   rintro e wn4 ⟨rfl, hq4⟩
   have HQ4 := Lib.hid hq4
   clear hq4
   generalize dN 8 y3.2 = y4 at *
   obtain ⟨cc1, cf1⟩ := HQ4.out.cell 1
   simp only [EV.cells, lq, lz] at cc1
   obtain ⟨cc2, cf2⟩ := HQ4.out.cell 2
   simp only [EV.cells, lq, lz] at cc2
   obtain ⟨cc3, cf3⟩ := HQ4.out.cell 3
   simp only [EV.cells, lq, lz] at cc3
   obtain ⟨cc4, cf4⟩ := HQ4.out.cell 4
   simp only [EV.cells, lq, lz] at cc4
   have HT4 := Lib.hid ((((HQ4.out.set 1 (.int .i64 y1.1)).set 2 (.int .i64 y2.1)).set 3 (.int .i64 y3.1)).set 4 (.int .i64 y4.1))
   go_wp2_with fail
   go_meet
   case rel =>
    rw [HS.out]
    simpa [EV.cells] using HT4.out
  case' false =>
   have hc : ¬ (r.k < 3) := fun h => by have h2 := HBI0.out.2 h; cases h2
   have HS := Lib.hid (show evxA (r, d1) = (r, d1) from by unfold evxA; rw [if_neg hc])
   clear hc
   go_wp2_with fail
   go_meet
   case rel =>
    rw [HS.out]
    exact HX3.out
 case rest =>
  have HC0 := Lib.hid hcut
  clear hcut HX3
  generalize evxA (r, d1) = x at *
  obtain ⟨r, d1⟩ := x
  have c0 := (HC0.out.cell 0).1
  simp only [EV.cells, List.getElem?_toArray, List.getElem?_cons_zero] at c0
  go_upto_if 24 with fail
  have HBI1 : Hid ((decide (1 < r.k)) = true ↔ (1 < r.k)) := Lib.hid (by simp)
  generalize (decide (1 < r.k)) = B at *
  clear c0
  go_cut [] (fun wx => GetAt w wx p g w.heap.size X 55 #[.int .i64 0, .int .i64 0, .int .i64 0, .int .i64 0, .int .i64 0, .int .i64 0, .int .i64 0, .string ⟨#[]⟩, .string ⟨#[]⟩] (evxB (r, d1)).1.cells (evxB (r, d1)).2)
  case first =>
   cases B
   case' true =>
    have hc := HBI1.out.1 rfl
    have HS := Lib.hid (show evxB (r, d1) = ({ r with i := (dN 2 d1).1 }, (dN 2 d1).2) from by unfold evxB; rw [if_pos hc])
    clear hc
    go_wp2_with fail
    refine (HC0.out.num 2).mono ?_
    rintro e wn1 ⟨rfl, hq1⟩
    have HQ1 := Lib.hid hq1
    clear hq1
    generalize dN 2 d1 = y1 at *
    obtain ⟨cc5, cf5⟩ := HQ1.out.cell 5
    simp only [EV.cells, lq, lz] at cc5
    have HT1 := Lib.hid (HQ1.out.set 5 (.int .i64 y1.1))
    go_wp2_with fail
    go_meet
    case rel =>
     rw [HS.out]
     simpa [EV.cells] using HT1.out
   case' false =>
    have hc : ¬ (1 < r.k) := fun h => by have h2 := HBI1.out.2 h; cases h2
    have HS := Lib.hid (show evxB (r, d1) = (r, d1) from by unfold evxB; rw [if_neg hc])
    clear hc
    go_wp2_with fail
    go_meet
    case rel =>
     rw [HS.out]
     exact HC0.out
  case rest =>
   have HC1 := Lib.hid hcut
   clear hcut HC0
   generalize evxB (r, d1) = x at *
   obtain ⟨r, d1⟩ := x
   have c0 := (HC1.out.cell 0).1
   simp only [EV.cells, List.getElem?_toArray, List.getElem?_cons_zero] at c0
   go_upto_if 30 with fail
   have HBI2 : Hid ((r.k == 2) = true ↔ (r.k = 2)) := Lib.hid (by simp)
   generalize (r.k == 2) = B at *
   clear c0
   go_cut [] (fun wx => GetAt w wx p g w.heap.size X 55 #[.int .i64 0, .int .i64 0, .int .i64 0, .int .i64 0, .int .i64 0, .int .i64 0, .int .i64 0, .string ⟨#[]⟩, .string ⟨#[]⟩] (evxC (r, d1)).1.cells (evxC (r, d1)).2)
   case first =>
    cases B
    case' true =>
     have hc := HBI2.out.1 rfl
     have HS := Lib.hid (show evxC (r, d1) = ({ r with h := strOfNums (dR d1).1, d := (dN 8 ((dR d1).2)).1 }, (dN 8 ((dR d1).2)).2) from by unfold evxC; rw [if_pos hc])
     clear hc
     go_wp2_with fail
     refine (HC1.out.raw).mono ?_
     rintro e wn1 ⟨⟨bo1, bc1, rfl, hb1⟩, hq1⟩
     have HQ1 := Lib.hid hq1
     have hcv1 := conv_u8 (P := Tryz.prog) bc1 62 5 9 Tryz.underlying62 Tryz.underlying5 Tryz.underlying9 hb1 rfl
     clear hq1 hb1
     generalize dR d1 = y1 at *
     obtain ⟨cc7, cf7⟩ := HQ1.out.cell 7
     simp only [EV.cells, lq, lz] at cc7
     have HT1 := Lib.hid (HQ1.out.set 7 (.string (strOfNums y1.1)))
     go_wp2_with fail
     refine (HT1.out.num 8).mono ?_
     rintro e wn2 ⟨rfl, hq2⟩
     have HQ2 := Lib.hid hq2
     clear hq2
     generalize dN 8 y1.2 = y2 at *
     obtain ⟨cc6, cf6⟩ := HQ2.out.cell 6
     simp only [EV.cells, lq, lz] at cc6
     have HT2 := Lib.hid (HQ2.out.set 6 (.int .i64 y2.1))
     go_wp2_with fail
     go_meet
     case rel =>
      rw [HS.out]
      simpa [EV.cells] using HT2.out
    case' false =>
     have hc : ¬ (r.k = 2) := fun h => by have h2 := HBI2.out.2 h; cases h2
     have HS := Lib.hid (show evxC (r, d1) = (r, d1) from by unfold evxC; rw [if_neg hc])
     clear hc
     go_wp2_with fail
     go_meet
     case rel =>
      rw [HS.out]
      exact HC1.out
   case rest =>
    have HC2 := Lib.hid hcut
    clear hcut HC1
    generalize evxC (r, d1) = x at *
    obtain ⟨r, d1⟩ := x
    have c0 := (HC2.out.cell 0).1
    simp only [EV.cells, List.getElem?_toArray, List.getElem?_cons_zero] at c0
    go_upto_if 40 with fail
    have HBI3 : Hid ((r.k == 3) = true ↔ (r.k = 3)) := Lib.hid (by simp)
    generalize (r.k == 3) = B at *
    clear c0
    go_cut [] (fun wx => GetAt w wx p g w.heap.size X 55 #[.int .i64 0, .int .i64 0, .int .i64 0, .int .i64 0, .int .i64 0, .int .i64 0, .int .i64 0, .string ⟨#[]⟩, .string ⟨#[]⟩] (evxD (r, d1)).1.cells (evxD (r, d1)).2)
    case first =>
     cases B
     case' true =>
      have hc := HBI3.out.1 rfl
      have HS := Lib.hid (show evxD (r, d1) = ({ r with s := strOfNums (dR d1).1 }, (dR d1).2) from by unfold evxD; rw [if_pos hc])
      clear hc
      go_wp2_with fail
      refine (HC2.out.raw).mono ?_
      rintro e wn1 ⟨⟨bo1, bc1, rfl, hb1⟩, hq1⟩
      have HQ1 := Lib.hid hq1
      have hcv1 := conv_u8 (P := Tryz.prog) bc1 62 5 9 Tryz.underlying62 Tryz.underlying5 Tryz.underlying9 hb1 rfl
      clear hq1 hb1
      generalize dR d1 = y1 at *
      obtain ⟨cc8, cf8⟩ := HQ1.out.cell 8
      simp only [EV.cells, lq, lz] at cc8
      have HT1 := Lib.hid (HQ1.out.set 8 (.string (strOfNums y1.1)))
      go_wp2_with fail
      go_meet
      case rel =>
       rw [HS.out]
       simpa [EV.cells] using HT1.out
     case' false =>
      have hc : ¬ (r.k = 3) := fun h => by have h2 := HBI3.out.2 h; cases h2
      have HS := Lib.hid (show evxD (r, d1) = (r, d1) from by unfold evxD; rw [if_neg hc])
      clear hc
      go_wp2_with fail
      go_meet
      case rel =>
       rw [HS.out]
       exact HC2.out
    case rest =>
     have HC3 := Lib.hid hcut
     clear hcut HC2
     generalize evxD (r, d1) = x at *
     obtain ⟨r, d1⟩ := x
     obtain ⟨cc0, _⟩ := HC3.out.cell 0
     obtain ⟨dd0, df0⟩ := HC3.out.cellR 0
     obtain ⟨cc1, _⟩ := HC3.out.cell 1
     obtain ⟨dd1, df1⟩ := HC3.out.cellR 1
     obtain ⟨cc2, _⟩ := HC3.out.cell 2
     obtain ⟨dd2, df2⟩ := HC3.out.cellR 2
     obtain ⟨cc3, _⟩ := HC3.out.cell 3
     obtain ⟨dd3, df3⟩ := HC3.out.cellR 3
     obtain ⟨cc4, _⟩ := HC3.out.cell 4
     obtain ⟨dd4, df4⟩ := HC3.out.cellR 4
     obtain ⟨cc5, _⟩ := HC3.out.cell 5
     obtain ⟨dd5, df5⟩ := HC3.out.cellR 5
     obtain ⟨cc6, _⟩ := HC3.out.cell 6
     obtain ⟨dd6, df6⟩ := HC3.out.cellR 6
     obtain ⟨cc7, _⟩ := HC3.out.cell 7
     obtain ⟨dd7, df7⟩ := HC3.out.cellR 7
     obtain ⟨cc8, _⟩ := HC3.out.cell 8
     obtain ⟨dd8, df8⟩ := HC3.out.cellR 8
     simp only [EV.cells, lq] at cc0 dd0 cc1 dd1 cc2 dd2 cc3 dd3 cc4 dd4 cc5 dd5 cc6 dd6 cc7 dd7 cc8 dd8
     go_wp2
     obtain ⟨wF, hwF⟩ : ∃ wF, wF = (((((((((wc.setCell ⟨w.heap.size, 0, none⟩ (.int .i64 r.k)).setCell ⟨w.heap.size, 1, none⟩ (.int .i64 r.f)).setCell ⟨w.heap.size, 2, none⟩ (.int .i64 r.t)).setCell ⟨w.heap.size, 3, none⟩ (.int .i64 r.a)).setCell ⟨w.heap.size, 4, none⟩ (.int .i64 r.n)).setCell ⟨w.heap.size, 5, none⟩ (.int .i64 r.i)).setCell ⟨w.heap.size, 6, none⟩ (.int .i64 r.d)).setCell ⟨w.heap.size, 7, none⟩ (.string r.h)).setCell ⟨w.heap.size, 8, none⟩ (.string r.s)) := ⟨_, rfl⟩
     rw [← hwF]
     have hk : Keeps (fun i => i = w.heap.size) wc wF := by rw [hwF]; exact (((((((((Keeps.refl (fun i => i = w.heap.size) wc).setCell (p := ⟨w.heap.size, 0, none⟩) (Or.inl rfl) (.int .i64 r.k)).setCell (p := ⟨w.heap.size, 1, none⟩) (Or.inl rfl) (.int .i64 r.f)).setCell (p := ⟨w.heap.size, 2, none⟩) (Or.inl rfl) (.int .i64 r.t)).setCell (p := ⟨w.heap.size, 3, none⟩) (Or.inl rfl) (.int .i64 r.a)).setCell (p := ⟨w.heap.size, 4, none⟩) (Or.inl rfl) (.int .i64 r.n)).setCell (p := ⟨w.heap.size, 5, none⟩) (Or.inl rfl) (.int .i64 r.i)).setCell (p := ⟨w.heap.size, 6, none⟩) (Or.inl rfl) (.int .i64 r.d)).setCell (p := ⟨w.heap.size, 7, none⟩) (Or.inl rfl) (.string r.h)).setCell (p := ⟨w.heap.size, 8, none⟩) (Or.inl rfl) (.string r.s)
     have hbx : wF.heap[w.heap.size]? = some (.cells r.cells 55 (0, 0)) := by
      rw [hwF]
      have h := blk_set (blk_set (blk_set (blk_set (blk_set (blk_set (blk_set (blk_set (blk_set (HC3.out.boxR) 0 (.int .i64 r.k)) 1 (.int .i64 r.f)) 2 (.int .i64 r.t)) 3 (.int .i64 r.a)) 4 (.int .i64 r.n)) 5 (.int .i64 r.i)) 6 (.int .i64 r.d)) 7 (.string r.h)) 8 (.string r.s)
      rw [h]
      simp [EV.cells]
     have q0 := blk_cell hbx 0
     have q1 := blk_cell hbx 1
     have q2 := blk_cell hbx 2
     have q3 := blk_cell hbx 3
     have q4 := blk_cell hbx 4
     have q5 := blk_cell hbx 5
     have q6 := blk_cell hbx 6
     have q7 := blk_cell hbx 7
     have q8 := blk_cell hbx 8
     simp only [EV.cells, lq] at q0 q1 q2 q3 q4 q5 q6 q7 q8
     have a1 := HC3.out.pl
     have a2 := HC3.out.gl
     refine bodyPost_ret (v := .agg #[.int .i64 r.k, .int .i64 r.f, .int .i64 r.t, .int .i64 r.a, .int .i64 r.n, .int .i64 r.i, .int .i64 r.d, .string r.h, .string r.s]) (by simp [results, Tryz.results46, go_sem, q0, q1, q2, q3, q4, q5, q6, q7, q8]) rfl ⟨?_, ?_, ?_⟩
     · rw [HGET.out]; rfl
     · rw [HGET.out]; exact HC3.out.dec.keep hk (by omega) (Or.inr (by omega))
     · exact HC3.out.keep.trans hk (fun i hi => Or.inr (by omega))
end Go.Proofs.YtkaciaehlibidaaGreat
