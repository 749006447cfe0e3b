/- Contracts of package wire's encoder. Contracts of package wire's encoder: Clone, Done, Bytes; of cflref.Bytes. Contracts of package req's writer: num, number, text, has, done. Events, plainly; contracts of Event.number, Event.text, req.has, out.done, Req.event. -/
import Derived.Test.YtkaciaehlibidaaGreatLgA
import Derived.Test.YtkaciaehlibidaaGreatLgC
import Derived.Deep.RegionHeld3
import Derived.Test.YtkaciaehlibidaaGreatLgD
namespace Go.Proofs.YtkaciaehlibidaaGreat
open Go.RowKit
set_option linter.unusedVariables false

def mayB (size : Int) : Bool := decide (1 ≤ size ∧ size ≤ 8)
def byteAt (n : Int) (i : Nat) : Int := IntKind.u8.wrap (n / 2 ^ (8 * i))
def putB (n : Int) : Nat → List Int
  | 0 => []
  | k + 1 => byteAt n k :: putB n k
def fitsB (n size : Int) : Bool := mayB size && amtB n && (decide (8 ≤ size) || decide (n / 2 ^ (8 * size.toNat) ≤ 0))
def encNum (bs : List Int) (e n size : Int) : List Int × Int := if e = 0 then (if fitsB n size then (bs ++ putB n size.toNat, 0) else (bs, 1)) else (bs, e)


set_option maxHeartbeats 400000 in
theorem may_any (size : Int) (w : World) :
    Calls Tryz.prog 68 #[.int .i64 size] w fun e w' => e = .returned (.bool (mayB size)) ∧ w = w' := by
  go_enter Tryz.func68, Tryz.ntmps68
  go_wp2
  all_goals
    go_ret
    exact ⟨ret_bool (by unfold mayB; simp; omega), rfl⟩

set_option maxHeartbeats 400000 in
theorem newEnc (w : World) :
    Calls Tryz.prog 35 #[] w fun e w' => e = .returned (.pointer (some ⟨w.heap.size, 0, none⟩)) ∧ w' = w.alloc (.cells #[.slice none 0 0, .int .i64 0] 144) := by
  go_enter Tryz.func35, Tryz.ntmps35
  go_wp2
  go_ret
  exact ⟨rfl, rfl⟩


theorem putB_length (n : Int) (s : Nat) : (putB n s).length = s := by
  induction s with
  | zero => rfl
  | succ s ih => simp [putB, ih]
theorem putB_take (n : Int) (s k : Nat) (hk : k < s) : (putB n s).take (s - k) = (putB n s).take (s - (k + 1)) ++ [byteAt n k] := by
  induction s with
  | zero => omega
  | succ s ih =>
    by_cases h : k = s
    · subst h
      rw [show k + 1 - k = 1 by omega, show k + 1 - (k + 1) = 0 by omega]; simp [putB]
    · have := ih (by omega)
      rw [show s + 1 - k = (s - k) + 1 by omega, show s + 1 - (k + 1) = (s - (k + 1)) + 1 by omega]
      simp [putB, this]

set_option maxRecDepth 100000 in
set_option maxHeartbeats 2000000 in
theorem enc_num (p : Nat) (v : Value) (bs : List Int) (e n size : Int) (w : World) (h : EncAt 144 w p v bs e) (hlen : bs.length + 8 ≤ 140737488355328) :
    Calls Tryz.prog 36 #[.pointer (some ⟨p, 0, none⟩), .int .i64 n, .int .i64 size] w fun en w' => en = .returned (.tuple #[]) ∧ EncPost 144 w p v (encNum bs e n size).1 (encNum bs e n size).2 w' := by
  have h' := h
  obtain ⟨hp, hown, hne⟩ := h'
  have c0 := blk_cell hp 0
  have c1 := blk_cell hp 1
  have f0 := blk_frozen hp 0
  have f1 := blk_frozen hp 1
  simp only [List.getElem?_toArray, List.getElem?_cons_zero, List.getElem?_cons_succ] at c0 c1
  by_cases he : e = 0
  · subst he
    have hbad : fitsB n size = false → EncPost 144 w p v (encNum bs 0 n size).1 (encNum bs 0 n size).2 (w.setCell ⟨p, 1, none⟩ (.int .i64 1)) := fun hf => by
      rw [show encNum bs 0 n size = (bs, 1) by simp [encNum, hf]]
      exact enc_err h 1
    by_cases hm : mayB size = true
    · have hm' := hm
      simp only [mayB, decide_eq_true_eq] at hm'
      obtain ⟨s, rfl⟩ := Int.eq_ofNat_of_zero_le (show 0 ≤ size by omega)
      obtain ⟨hs1, hs2⟩ := hm'
      by_cases ha : amtB n = true
      · by_cases hq : (s : Int) < 8 ∧ 0 < n / 2 ^ (8 * s)
        · have HN : fitsB n s = false := by simp [fitsB, hm, ha]; omega
          obtain ⟨hq1, hq2⟩ := hq
          have hq3 : min (8 * s) 64 = 8 * s := by omega
          have HP := Lib.hid (hbad HN)
          clear hbad h hp hown hne
          go_enter Tryz.func36, Tryz.ntmps36
          go_wp2_with (first | (go_at_call 68; refine (may_any _ _).mono ?_; rintro e w' ⟨rfl, rfl⟩) | (go_at_call 69; refine (amount_any _ _).mono ?_; rintro e w' ⟨rfl, rfl⟩))
          refine bodyPost_ret (results_none rfl _ _ _) rfl ⟨rfl, HP.out⟩
        · have HN := Lib.hid (show encNum bs 0 n s = (bs ++ putB n s, 0) by simp [encNum, fitsB, hm, ha]; omega)
          have hq' : ¬ (s : Int) < 8 ∨ ((s : Int) < 8 ∧ min (8 * s) 64 = 8 * s ∧ ¬ 0 < n / 2 ^ (8 * s)) := by omega
          obtain ⟨i0, hi, hz0, hz1, hz2⟩ := info_parts Try_infoU8
          have hpl := blk_lt hp
          have H0 := Lib.hid (show EncPost 144 w p v (bs ++ (putB n s).take (s - s)) 0 w from by simpa using EncPost.refl h)
          clear hbad h hp hown hne
          rcases hq' with hq | ⟨hq1, hq2, hq3⟩
          all_goals
            go_enter Tryz.func36, Tryz.ntmps36
            go_wp2_with (first | (go_at_call 68; refine (may_any _ _).mono ?_; rintro e w' ⟨rfl, rfl⟩) | (go_at_call 69; refine (amount_any _ _).mono ?_; rintro e w' ⟨rfl, rfl⟩))
            go_loopw [6] (fun i wr => ∃ j : Int, -1 ≤ j ∧ j < s ∧ i = .int .i64 j ∧ EncPost 144 w p v (bs ++ (putB n s).take (s - (j + 1).toNat)) 0 wr) (fun i _ => (intOf i + 1).toNat)
            case atStart => exact ⟨(s : Int) - 1, by omega, by omega, rfl, by rw [show ((s : Int) - 1 + 1).toNat = s by omega]; exact H0.out⟩
            case round =>
              obtain ⟨j, hj1, hj2, rfl, v', hE, hK, hF⟩ := hrel
              by_cases hj : 0 ≤ j
              · obtain ⟨m, rfl⟩ := Int.eq_ofNat_of_zero_le hj
                rw [show ((m : Int) + 1).toNat = m + 1 by omega] at hE
                have HT := Lib.hid (putB_take n s m (by omega))
                have hE' := hE
                obtain ⟨hp', hown', hne'⟩ := hE'
                have k0 := blk_cell hp' 0
                have k0f := blk_frozen hp' 0
                simp only [List.getElem?_toArray, List.getElem?_cons_zero] at k0
                have hL : (bs ++ (putB n s).take (s - (m + 1))).length + 1 ≤ 140737488355328 := by simp [putB_length]; omega
                generalize hbb : bs ++ (putB n s).take (s - (m + 1)) = bb at *
                have HBB := Lib.hid hbb
                have HE := Lib.hid hE
                have HOWN := Lib.hid hown'
                have HNE := Lib.hid hne'
                have hpw := blk_lt hp'
                have hmin : min (8 * m) 64 = 8 * m := by omega
                clear hbb hE hown' hp' hne'
                have hw8 : IntKind.i64.wrap (8 * (m : Int)) = 8 * (m : Int) := IntWalk.i64_in _ (by omega)
                have hw9 : (0 : Int) ≤ 8 * (m : Int) := by omega
                have hw10 : (8 * (m : Int)).toNat = 8 * m := by omega
                go_wp2_with fail
                go_region_law
                  ((refine step_append_lies _ (by rfl) _ _ _ (by rfl) 0 5 i0 _ 1 1 Tryz.underlying62 hi hz0 hz1 hz2 rfl (by omega) v' bb.length (bb.map (Value.int .u8)) (by rfl) ((HOWN.out.alloc _)) ⟨wr.heap.size, 0, none⟩ 1 1 [.int .u8 (IntKind.u8.wrap (n / 2 ^ (8 * m)))] (by rfl) (by rfl) (World.news_of_block (cs := #[.int .u8 (IntKind.u8.wrap (n / 2 ^ (8 * m)))]) (t := 5) (fr := (0, 0)) (heap_alloc_new _ _)) (by simp [Value.oneCell']) (by omega) (by unfold maxLen; omega) (by omega) (by omega) (wr.heap.size + 1) (by simp) ?_; intro gg cap w1 hown1 hgrow hat hlt; have k1 : w1.cell? ⟨p, 0, none⟩ = some v' := ((hgrow.cell_far _ (by simp; omega) (Ne.symm HNE.out)).trans ((World.cell?_alloc_past _ _ _ hpw).trans k0)); have k1f : w1.frozen? ⟨p, 0, none⟩ = false := ((hgrow.frozen_far _ (by simp; omega) (Ne.symm HNE.out)).trans ((World.frozen?_alloc_past _ _ _ hpw).trans k0f))))
                all_goals
                  have R := Lib.hid (EncPost.trans hK hF (enc_app (zs := [IntKind.u8.wrap (n / 2 ^ (8 * m))]) (wa := (wr.alloc (.cells #[.int .u8 (IntKind.u8.wrap (n / 2 ^ (8 * m)))] 5)).drew) HE.out (((Keeps.refl _ wr).alloc _).drew) (by simpa using hown1) hgrow (fun g hg => by
                    simp only [Value.ownBlock, Option.some.injEq] at hg
                    subst hg
                    rcases hat with h | h
                    · exact Or.inl h
                    · exact Or.inr (by omega))))
                  clear hown1 hgrow hat hF hK
                  go_wp2
                  go_roundw
                  case rel =>
                    refine ⟨(m : Int) - 1, by omega, by omega, rfl, ?_⟩
                    have h1 := R.out
                    rw [← HBB.out, List.append_assoc] at h1
                    rw [show ((m : Int) - 1 + 1).toNat = m by omega, HT.out, ← HBB.out]
                    exact h1
                  case measure => simp [intOf] <;> omega
              · have HR : Hid (EncPost 144 w p v (encNum bs 0 n s).1 (encNum bs 0 n s).2 wr) := by
                  rw [HN.out]
                  have e1 : (j + 1).toNat = 0 := by omega
                  rw [e1, Nat.sub_zero, List.take_of_length_le (by simp [putB_length])] at hE
                  exact Lib.hid ⟨v', hE, hK, hF⟩
                clear hE hK hF
                go_wp2
                go_end0
                exact ⟨rfl, HR.out⟩
      · simp at ha
        have HN : fitsB n s = false := by simp [fitsB, ha]
        have HP := Lib.hid (hbad HN)
        clear hbad h hp hown hne
        go_enter Tryz.func36, Tryz.ntmps36
        go_wp2_with (first | (go_at_call 68; refine (may_any _ _).mono ?_; rintro e w' ⟨rfl, rfl⟩) | (go_at_call 69; refine (amount_any _ _).mono ?_; rintro e w' ⟨rfl, rfl⟩))
        refine bodyPost_ret (results_none rfl _ _ _) rfl ⟨rfl, HP.out⟩
    · simp at hm
      have HN : fitsB n size = false := by simp [fitsB, hm]
      have HP := Lib.hid (hbad HN)
      clear hbad h hp hown hne
      go_enter Tryz.func36, Tryz.ntmps36
      go_wp2_with (first | (go_at_call 68; refine (may_any _ _).mono ?_; rintro e w' ⟨rfl, rfl⟩) | (go_at_call 69; refine (amount_any _ _).mono ?_; rintro e w' ⟨rfl, rfl⟩))
      refine bodyPost_ret (results_none rfl _ _ _) rfl ⟨rfl, HP.out⟩
  · have he' : (e != 0) = true := by simp [he]
    have hN := Lib.hid (show encNum bs e n size = (bs, e) by simp [encNum, he])
    have HP : Hid (EncPost 144 w p v bs e w) := Lib.hid (EncPost.refl h)
    clear he h hp hown hne
    go_enter Tryz.func36, Tryz.ntmps36
    go_wp2
    refine bodyPost_ret (results_none rfl _ _ _) rfl ⟨rfl, ?_⟩
    rw [hN.out]; exact HP.out

def doneB (bs : List Int) (e : Int) : List Int := if e = 0 then bs else []

set_option maxHeartbeats 1000000 in
theorem enc_done (p : Nat) (v : Value) (bs : List Int) (e : Int) (w : World) (h : EncAt 144 w p v bs e) (hlen : bs.length ≤ 140737488355328) :
    Calls Tryz.prog 37 #[.pointer (some ⟨p, 0, none⟩)] w fun en w' => RowPost2 w (doneB bs e) e en w' := by
  obtain ⟨hp, hown, hne⟩ := h
  have c0 := blk_cell hp 0
  have c1 := blk_cell hp 1
  simp only [List.getElem?_toArray, List.getElem?_cons_zero, List.getElem?_cons_succ] at c0 c1
  by_cases he : e = 0
  · subst he
    obtain ⟨ao, cap, rfl⟩ : ∃ ao cap, v = .slice ao bs.length cap := by
      rcases hown.2 with ⟨hv, hn⟩ | ⟨g, cap, cur, hv, _⟩
      · exact ⟨none, 0, by rw [hv, hn]⟩
      · exact ⟨_, cap, hv⟩
    have HC := Lib.hid (clone_u8 ao bs bs.length cap w rfl (owns_at hown).2.1 hlen)
    clear hp hown hne
    go_enter Tryz.func37, Tryz.ntmps37
    go_wp2_with fail
    refine HC.out.mono ?_
    rintro e w1 ⟨ao', cap', rfl, hr⟩
    have HR := Lib.hid hr
    clear hr HC
    go_wp2
    go_ret2
    exact ⟨ao', cap', by simp [doneB], by simpa [doneB] using HR.out⟩
  · have he' : (e != 0) = true := by simp [he]
    have HD := Lib.hid (show doneB bs e = [] by simp [doneB, he])
    clear he hp hown hne
    go_enter Tryz.func37, Tryz.ntmps37
    go_wp2
    go_quiet (fail)
    go_wp2
    go_ret2
    rw [HD.out]
    exact ⟨none, 0, rfl, World.ownsRow_nil _ _ _ _, by repeat (first | exact Below.refl _ _ | exact Keeps.below ((Keeps.refl (fun _ => False) _).drewN _) (Nat.le_refl _) (fun _ f => f.elim)), fun g hg => by cases hg⟩

def encBytes (bs : List Int) (e : Int) (zs : List Int) : List Int × Int :=
  if e = 0 then (if 65535 < zs.length then (bs, 3) else (bs ++ putB zs.length 2 ++ zs, 0)) else (bs, e)
theorem fits_len (n : Nat) (h : n ≤ 65535) : fitsB n 2 = true := by
  have h1 : amtB (n : Int) = true := (amt_iff _).2 ⟨by omega, by unfold MA; omega⟩
  have h2 : (n : Int) / 2 ^ (8 * (2 : Int).toNat) ≤ 0 := by
    show (n : Int) / 65536 ≤ 0
    omega
  simp [fitsB, h1]
  exact ⟨by decide, by omega⟩
theorem encNum_len (bs : List Int) (n : Nat) (h : n ≤ 65535) : encNum bs 0 n 2 = (bs ++ putB n 2, 0) := by simp [encNum, fits_len n h]


/-- What out.num lays. -/
def numOut (st : List Int × Bool) (n size : Int) : List Int × Bool := if fitsB n size = true then (st.1 ++ putB n size.toNat, st.2) else (st.1, true)
theorem encNum_0 (n size : Int) : encNum [] 0 n size = if fitsB n size then (putB n size.toNat, 0) else ([], 1) := by simp [encNum]

set_option maxHeartbeats 1000000 in
theorem out_num (p : Nat) (v : Value) (bs : List Int) (bad : Bool) (n size : Int) (w : World) (h : BufAt 147 w p v bs (.bool bad)) (hlen : bs.length + 8 ≤ 140737488355328) :
    Calls Tryz.prog 95 #[.pointer (some ⟨p, 0, none⟩), .int .i64 n, .int .i64 size] w fun en w' => en = .returned (.tuple #[]) ∧ BufPost 147 w p v (numOut (bs, bad) n size).1 (.bool (numOut (bs, bad) n size).2) w' := by
  have H := Lib.hid h
  have HN : Hid (∃ ob oe, encNum [] 0 n size = (ob, oe) ∧ ob.length ≤ 8 ∧ (doneB ob oe).length ≤ 8 ∧ ((oe = 0 ∧ numOut (bs, bad) n size = (bs ++ doneB ob oe, bad)) ∨ (oe = 1 ∧ numOut (bs, bad) n size = (bs ++ doneB ob oe, true)))) := Lib.hid (by
    rw [encNum_0]
    by_cases hf : fitsB n size = true
    · have hs : mayB size = true := by simp only [fitsB, Bool.and_eq_true] at hf; exact hf.1.1
      simp only [mayB, decide_eq_true_eq] at hs
      exact ⟨_, _, if_pos hf, by rw [putB_length]; omega, by simp [doneB, putB_length]; omega, Or.inl ⟨rfl, by simp [numOut, hf, doneB]⟩⟩
    · exact ⟨_, _, if_neg hf, Nat.zero_le _, by simp [doneB], Or.inr ⟨rfl, by simp [numOut, hf, doneB]⟩⟩)
  obtain ⟨ob, oe, he, hl8, hz8, hcase⟩ := HN.out
  have HE := Lib.hid he
  have HCS := Lib.hid hcase
  obtain ⟨i0, hi, hz0, hz1, hz2⟩ := info_parts Try_infoU8
  have hpl := blk_lt h.1
  clear h HN he hcase
  go_enter Tryz.func95, Tryz.ntmps95
  go_wp2_with fail
  refine (newEnc _).mono ?_
  rintro en w1 ⟨rfl, rfl⟩
  have HB1 := Lib.hid (show Below w.heap.size w (w.alloc (.cells #[.slice none 0 0, .int .i64 0] 144)) from (Below.refl _ _).alloc (Nat.le_refl _) _)
  have HA1 := Lib.hid (show EncAt 144 (w.alloc (.cells #[.slice none 0 0, .int .i64 0] 144)) w.heap.size (.slice none 0 0) [] 0 from ⟨heap_alloc_new w _, World.ownsRow_nil _ _ _ _, fun h => by cases h⟩)
  have hw1 : w.heap.size ≤ (w.alloc (.cells #[.slice none 0 0, .int .i64 0] 144)).heap.size := by simp
  generalize w.alloc (.cells #[.slice none 0 0, .int .i64 0] 144) = w1 at *
  go_wp2_with fail
  refine (enc_num _ _ [] 0 n size _ HA1.out (by simp)).mono ?_
  rintro en w2 ⟨rfl, h2⟩
  rw [HE.out] at h2
  obtain ⟨v2, ha2, hk2, hf2⟩ := h2
  have HA2 := Lib.hid ha2
  have HB2 := Lib.hid (HB1.out.trans (hk2.below (B := w.heap.size) HB1.out.size (fun k hk => by rcases hk with rfl | hk; exact Nat.le_refl _; cases hk)))
  clear ha2 hk2 hf2
  go_wp2_with fail
  refine (enc_done _ _ _ _ _ HA2.out (by omega)).mono ?_
  rintro en w3 ⟨ao, cap, rfl, hr⟩
  have HB3 := Lib.hid (HB2.out.trans (hr.2.1.mono HB2.out.size))
  have HI3 := Lib.hid (owns_at hr.1).2.1
  have H3 := Lib.hid (H.out.below HB3.out)
  obtain ⟨k0, k1, k0f, k1f⟩ := H3.out.cells
  have HO3 := Lib.hid H3.out.2.1
  have hp3 := blk_lt H3.out.1
  clear hr
  generalize doneB ob oe = Z at *
  rcases HCS.out with ⟨rfl, hout⟩ | ⟨rfl, hout⟩
  all_goals
    have HOUT := Lib.hid hout
    clear hout
    have HNN := Lib.hid (fun e : ao = none => ints_none (e ▸ HI3.out))
    go_wp2_with (at_builtin; refine wpList_append_any rfl _ _ 62 rfl 5 i0 (.int .u8 0) 1 1 Tryz.underlying62 hi hz0 hz1 hz2 rfl (by decide) v bs.length (bs.map (Value.int .u8)) rfl HO3.out ao _ cap _ rfl ?c1 (fun e => HNN.out e) (src_ints HI3.out) (ints_one _ _) ?c5 ?c6 ?_)
    case c1 => simp
    case c5 => unfold maxLen; simp; omega
    case c6 => simp; omega
    intro ao' cap' w4 hown hgrow hat hnn
    have hne := H3.out.2.2
    have k4 : w4.cell? ⟨p, 0, none⟩ = some v := (hgrow.cell_far _ hp3 (Ne.symm hne)).trans k0
    have k4f : w4.frozen? ⟨p, 0, none⟩ = false := (hgrow.frozen_far _ hp3 (Ne.symm hne)).trans k0f
    have k41 : w4.cell? ⟨p, 1, none⟩ = some (.bool bad) := (hgrow.cell_far _ hp3 (Ne.symm hne)).trans k1
    have k41f : w4.frozen? ⟨p, 1, none⟩ = false := (hgrow.frozen_far _ hp3 (Ne.symm hne)).trans k1f
    have hp := buf_app (zs := Z) H3.out (Keeps.refl _ _) (by rw [List.map_append]; exact hown) hgrow (fun g hg => (hat g hg).imp id (fun e => by omega))
    obtain ⟨v5, h5, k5, f5⟩ := hp
    have HQ := Lib.hid (fun y => BufPost.trans ((Keeps.of_below (S := fpE p v) HB3.out).trans k5 (fun i hi => Or.inl hi)) (fun g hg => (f5 g hg).imp id (fun h => by have := HB3.out.size; omega)) (buf_set h5 y))
    clear h5 k5 f5 hown hgrow hat hnn k0 k1 k0f k1f
    cases bad
    all_goals
      go_wp2
      go_end0
      refine ⟨rfl, ?_⟩
      rw [HOUT.out]
      exact HQ.out _

structure EV where
  k : Int
  f : Int
  t : Int
  a : Int
  n : Int
  i : Int
  d : Int
  h : ByteArray
  s : ByteArray
def EV.num (e : EV) : Nat → Int
  | 1 => e.f
  | 2 => e.t
  | 3 => e.a
  | 4 => e.n
  | 5 => e.i
  | 6 => e.d
  | _ => e.k
def EV.setN (e : EV) (x : Int) : Nat → EV
  | 1 => { e with f := x }
  | 2 => { e with t := x }
  | 3 => { e with a := x }
  | 4 => { e with n := x }
  | 5 => { e with i := x }
  | 6 => { e with d := x }
  | _ => { e with k := x }
def EV.txt (e : EV) (j : Nat) : ByteArray := if j = 7 then e.h else e.s
def EV.setT (e : EV) (x : ByteArray) (j : Nat) : EV := if j = 7 then { e with h := x } else { e with s := x }
def EV.cells (e : EV) : Array Value := #[.int .i64 e.k, .int .i64 e.f, .int .i64 e.t, .int .i64 e.a, .int .i64 e.n, .int .i64 e.i, .int .i64 e.d, .string e.h, .string e.s]
theorem EV.cell_num (e : EV) (j : Nat) (hj : j ≤ 6) : e.cells[j]? = some (.int .i64 (e.num j)) := by
  match j, hj with
  | 0, _ => rfl
  | 1, _ => rfl
  | 2, _ => rfl
  | 3, _ => rfl
  | 4, _ => rfl
  | 5, _ => rfl
  | 6, _ => rfl
theorem EV.cell_txt (e : EV) (j : Nat) (hj : j = 7 ∨ j = 8) : e.cells[j]? = some (.string (e.txt j)) := by
  rcases hj with rfl | rfl <;> rfl
theorem EV.set_num (e : EV) (x : Int) (j : Nat) (hj : j ≤ 6) : e.cells.setIfInBounds j (.int .i64 x) = (e.setN x j).cells := by
  match j, hj with
  | 0, _ => rfl
  | 1, _ => rfl
  | 2, _ => rfl
  | 3, _ => rfl
  | 4, _ => rfl
  | 5, _ => rfl
  | 6, _ => rfl
theorem EV.set_txt (e : EV) (x : ByteArray) (j : Nat) (hj : j = 7 ∨ j = 8) : e.cells.setIfInBounds j (.string x) = (e.setT x j).cells := by
  rcases hj with rfl | rfl <;> rfl
/-- The signs of numbers: which field, how many bytes. -/
def numSign (c : Int) : Option (Nat × Int) :=
  if c = 102 then some (1, 1) else if c = 116 then some (2, 1) else if c = 97 then some (3, 1) else if c = 110 then some (4, 8) else if c = 105 then some (5, 2) else if c = 100 then some (6, 8) else none
def txtSign (c : Int) : Nat := if c = 104 then 7 else 8
theorem numSign_in {c : Int} {j : Nat} {z : Int} (h : numSign c = some (j, z)) : 1 ≤ j ∧ j ≤ 6 ∧ 1 ≤ z ∧ z ≤ 8 := by
  unfold numSign at h
  repeat' split at h
  all_goals simp only [Option.some.injEq, Prod.mk.injEq, reduceCtorEq] at h
  all_goals omega
theorem txtSign_in (c : Int) : txtSign c = 7 ∨ txtSign c = 8 := by unfold txtSign; split <;> simp
def hasN (k : Int) (ev : Bool) : List Int :=
  if k = 1 then (if ev then [102, 116, 97, 110] else [116, 97, 110]) else if k = 2 then (if ev then [102, 116, 97, 110, 105, 104, 100] else [116, 97, 110, 104, 100]) else if k = 3 then [105, 115] else if k = 4 then [105] else []
def bytesOf (l : List Int) : ByteArray := ⟨(l.map fun z => UInt8.ofNat z.toNat).toArray⟩

set_option maxHeartbeats 1000000 in
theorem has_any (k : Int) (ev : Bool) (w : World) :
    Calls Tryz.prog 72 #[.int .i64 k, .bool ev] w fun e w' => e = .returned (.string (bytesOf (hasN k ev))) ∧ w = w' := by
  by_cases h1 : k = 1
  · subst h1
    cases ev
    all_goals
      go_enter Tryz.func72, Tryz.ntmps72
      go_wp2
      go_ret
      exact ⟨rfl, rfl⟩
  · by_cases h2 : k = 2
    · subst h2
      cases ev
      all_goals
        go_enter Tryz.func72, Tryz.ntmps72
        go_wp2
        go_ret
        exact ⟨rfl, rfl⟩
    · by_cases h3 : k = 3
      · subst h3
        go_enter Tryz.func72, Tryz.ntmps72
        go_wp2
        all_goals
          go_ret
          exact ⟨rfl, rfl⟩
      · by_cases h4 : k = 4
        · subst h4
          go_enter Tryz.func72, Tryz.ntmps72
          go_wp2
          all_goals
            go_ret
            exact ⟨rfl, rfl⟩
        · have b1 : (k == 1) = false := by simp [h1]
          have b2 : (k == 2) = false := by simp [h2]
          have b3 : (k == 3) = false := by simp [h3]
          have b4 : (k == 4) = false := by simp [h4]
          have HH := Lib.hid (show bytesOf (hasN k ev) = ⟨#[]⟩ by simp [hasN, h1, h2, h3, h4, bytesOf])
          clear h1 h2 h3 h4
          go_enter Tryz.func72, Tryz.ntmps72
          go_wp2
          all_goals
            go_ret
            rw [HH.out]
            exact ⟨rfl, rfl⟩

set_option maxHeartbeats 1000000 in
theorem number_num (R : Nat) (c : Int) (j : Nat) (z : Int) (w : World) (hR : R < w.heap.size) (hc : numSign c = some (j, z)) :
    Calls Tryz.prog 105 #[.pointer (some ⟨R, 0, none⟩), .int .i32 c] w fun e w' => e = .returned (.tuple #[.pointer (some ⟨R, j, none⟩), .int .i64 z]) ∧ w = w' := by
  have hx : (c = 102 ∧ j = 1 ∧ z = 1) ∨ (c = 116 ∧ j = 2 ∧ z = 1) ∨ (c = 97 ∧ j = 3 ∧ z = 1) ∨ (c = 110 ∧ j = 4 ∧ z = 8) ∨ (c = 105 ∧ j = 5 ∧ z = 2) ∨ (c = 100 ∧ j = 6 ∧ z = 8) := by
    unfold numSign at hc
    repeat' split at hc
    all_goals simp only [Option.some.injEq, Prod.mk.injEq, reduceCtorEq] at hc
    all_goals omega
  clear hc
  rcases hx with ⟨rfl, rfl, rfl⟩ | ⟨rfl, rfl, rfl⟩ | ⟨rfl, rfl, rfl⟩ | ⟨rfl, rfl, rfl⟩ | ⟨rfl, rfl, rfl⟩ | ⟨rfl, rfl, rfl⟩
  all_goals
    go_enter Tryz.func105, Tryz.ntmps105
    go_wp2
    go_ret2
    exact ⟨rfl, rfl⟩

set_option maxHeartbeats 1000000 in
theorem number_txt (R : Nat) (c : Int) (w : World) (hc : numSign c = none) :
    Calls Tryz.prog 105 #[.pointer (some ⟨R, 0, none⟩), .int .i32 c] w fun e w' => e = .returned (.tuple #[.pointer none, .int .i64 32]) ∧ w = w' := by
  have hx : ¬ c = 102 ∧ ¬ c = 116 ∧ ¬ c = 97 ∧ ¬ c = 110 ∧ ¬ c = 105 ∧ ¬ c = 100 := by
    unfold numSign at hc
    repeat' split at hc
    all_goals simp only [reduceCtorEq] at hc
    all_goals omega
  obtain ⟨h1, h2, h3, h4, h5, h6⟩ := hx
  have b1 : (c == 102) = false := by simp [h1]
  have b2 : (c == 116) = false := by simp [h2]
  have b3 : (c == 97) = false := by simp [h3]
  have b4 : (c == 110) = false := by simp [h4]
  have b5 : (c == 105) = false := by simp [h5]
  have b6 : (c == 100) = false := by simp [h6]
  clear hc h1 h2 h3 h4 h5 h6
  go_enter Tryz.func105, Tryz.ntmps105
  go_wp2
  go_ret2
  exact ⟨rfl, rfl⟩

set_option maxHeartbeats 1000000 in
theorem text_any (R : Nat) (c : Int) (w : World) :
    Calls Tryz.prog 106 #[.pointer (some ⟨R, 0, none⟩), .int .i32 c] w fun e w' => e = .returned (.pointer (some ⟨R, txtSign c, none⟩)) ∧ w = w' := by
  by_cases hc : c = 104
  · subst hc
    go_enter Tryz.func106, Tryz.ntmps106
    go_wp2
    go_ret
    exact ⟨rfl, rfl⟩
  · have b1 : (c == 104) = false := by simp [hc]
    have HT := Lib.hid (show txtSign c = 8 by simp [txtSign, hc])
    clear hc
    go_enter Tryz.func106, Tryz.ntmps106
    go_wp2
    go_ret
    rw [HT.out]
    exact ⟨rfl, rfl⟩

/-- What is told in the end. -/
def outEnd (st : List Int × Bool) : List Int × Int := if st.2 = true then ([], 1) else (st.1, 0)
theorem buf_form {T : TypeId} {w : World} {p : Nat} {v : Value} {bs : List Int} {x : Value} (h : BufAt T w p v bs x) : ∃ ao cap, v = .slice ao bs.length cap := by
  rcases h.2.1.2 with ⟨hv, hn⟩ | ⟨g, cap, cur, hv, _⟩
  · exact ⟨none, 0, by rw [hv, hn]⟩
  · exact ⟨_, cap, hv⟩
set_option maxHeartbeats 1000000 in
theorem out_done (p : Nat) (v : Value) (bs : List Int) (bad : Bool) (w : World) (h : BufAt 147 w p v bs (.bool bad)) :
    Calls Tryz.prog 73 #[.pointer (some ⟨p, 0, none⟩)] w fun en w' => (∃ ao cap, en = .returned (.tuple #[.slice ao (outEnd (bs, bad)).1.length cap, .int .i64 (outEnd (bs, bad)).2]) ∧ (.slice ao (outEnd (bs, bad)).1.length cap = v ∨ (outEnd (bs, bad)).1 = [] ∧ ao = none ∧ cap = 0)) ∧ w = w' := by
  obtain ⟨ao, cap, rfl⟩ := buf_form h
  obtain ⟨k0, k1, _, _⟩ := h.cells
  clear h
  cases bad
  · go_enter Tryz.func73, Tryz.ntmps73
    go_wp2
    go_ret2
    exact ⟨⟨ao, cap, rfl, Or.inl rfl⟩, rfl⟩
  · go_enter Tryz.func73, Tryz.ntmps73
    go_wp2
    go_ret2
    exact ⟨⟨none, 0, rfl, Or.inr ⟨rfl, rfl, rfl⟩⟩, rfl⟩

/-- A request. -/
structure RQ where
  k : Int
  t : Int
  a : Int
  n : Int
  i : Int
  d : Int
  h : ByteArray
  s : ByteArray
def RQ.cells (r : RQ) : Array Value := #[.int .i64 r.k, .int .i64 r.t, .int .i64 r.a, .int .i64 r.n, .int .i64 r.i, .int .i64 r.d, .string r.h, .string r.s]
def RQ.ev (r : RQ) : EV := ⟨r.k, 0, r.t, r.a, r.n, r.i, r.d, r.h, r.s⟩
set_option maxRecDepth 100000 in
set_option maxHeartbeats 1000000 in
theorem req_event (r : RQ) (w : World) :
    Calls Tryz.prog 96 #[.agg r.cells] w fun e w' => e = .returned (.agg r.ev.cells) ∧ Below w.heap.size w w' := by
  unfold RQ.cells
  go_enter Tryz.func96, Tryz.ntmps96
  go_wp2
  refine bodyPost_ret (v := .agg #[.int .i64 r.k, .int .i64 0, .int .i64 r.t, .int .i64 r.a, .int .i64 r.n, .int .i64 r.i, .int .i64 r.d, .string r.h, .string r.s]) (by simp [results, Tryz.results96, go_sem]) rfl ⟨rfl, ((Below.refl _ _).alloc (Nat.le_refl _) _).alloc (by simp) _⟩

end Go.Proofs.YtkaciaehlibidaaGreat
