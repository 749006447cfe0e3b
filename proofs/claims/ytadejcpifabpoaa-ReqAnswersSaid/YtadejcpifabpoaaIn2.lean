/- Contract of package req's reader: num; Event.req. -/
import Derived.Test.YtadejcpifabpoaaIn
namespace Go.Proofs.Ytadejcpifabpoaa
open Go.RowKit
set_option linter.unusedVariables false

def NumIn (w : World) (p g k : Nat) (st : InS) (e : Ending) (w' : World) : Prop := e = .returned (.int .i64 (inNum k st).1) ∧ InAt 99 w' p g (inNum k st).2 ∧ Keeps (fun i => i = p) w w'
theorem valB_zeros (k : Nat) : valB (List.replicate k 0) = 0 := by
  induction k with
  | zero => rfl
  | succ k ih => rw [List.replicate_succ, valB_cons, ih]; simp
theorem inNum_bytes (k : Nat) (st : InS) : inNum k st = (if MA < valB (inBytes k st).1 then 0 else valB (inBytes k st).1, ((inBytes k st).2.1, (inBytes k st).2.2 || decide (MA < valB (inBytes k st).1))) := by
  unfold inNum inBytes
  by_cases h : st.1.length < k
  · simp only [if_pos h, valB_zeros]
    rw [if_neg (by unfold MA; omega)]
    simp
  · simp only [if_neg h]
    by_cases h2 : MA < valB (st.1.take k)
    · simp [h2]
    · simp [h2]
theorem decNum_full (zs : List Int) (k : Nat) (hk : 1 ≤ k ∧ k ≤ 8) (hl : zs.length = k) : decNum zs 0 k = if MA < valB zs then (0, zs, 2) else (valB zs, [], 0) := by
  have e1 : mayB (k : Int) = true := by simp [mayB]; omega
  have e2 : ¬ ((zs.length : Nat) : Int) < (k : Int) := by omega
  have e3 : zs.take ((k : Int).toNat) = zs := by rw [Int.toNat_natCast]; exact List.take_of_length_le (by omega)
  have e4 : zs.drop ((k : Int).toNat) = [] := by rw [Int.toNat_natCast]; exact List.drop_eq_nil_of_le (by omega)
  unfold decNum numF
  rw [if_pos e1, if_neg e2, e3, e4]
  by_cases h : MA < valB zs
  · simp [h]
  · simp [h]

set_option maxRecDepth 100000 in
set_option maxHeartbeats 1000000 in
theorem in_num (p g k : Nat) (st : InS) (w : World) (h : InAt 99 w p g st) (hk : 1 ≤ k ∧ k ≤ 8) :
    Calls Try.prog 65 #[.pointer (some ⟨p, 0, none⟩), .int .i64 k] w (NumIn w p g k st) := by
  have HIN := Lib.hid (inNum_bytes k st)
  have HBY := Lib.hid (in_bytes p g k st w h (by omega))
  have hpl := h.lt
  clear h
  go_enter Try.func65, Try.ntmps65
  go_wp2_with fail
  refine HBY.out.mono ?_
  rintro en w1 ⟨ao, cap, rfl, hl, hi, hB, hc, hcm, hin, hk1⟩
  have HI := Lib.hid hi
  have HN1 := Lib.hid hin
  have HK1 := Lib.hid hk1
  have HDN := Lib.hid (decNum_full (inBytes k st).1 k hk hl)
  have HBB := Lib.hid hB
  have HL := Lib.hid hl
  have hpl1 := hin.lt
  generalize inBytes k st = r at *
  obtain ⟨zs, st1⟩ := r
  clear hi hB hin hk1 hl
  go_wp2_with fail
  refine (newDec ao zs k cap w1 HL.out HI.out HBB.out (by omega)).mono ?_
  rintro en w2 ⟨q, gd, rfl, hd2, hb2, hq, hg⟩
  have HB2 := Lib.hid hb2
  have HN2 := Lib.hid (HN1.out.below hb2)
  have HD2 := Lib.hid hd2
  clear hd2 hb2
  go_wp2_with fail
  refine (dec_num q gd zs 0 k w2 HD2.out).mono ?_
  rintro en w3 ⟨rfl, hd3, hk3⟩
  have hb3 : Below w1.heap.size w1 w3 := HB2.out.trans (hk3.below HB2.out.size (fun i hi => by omega))
  have hn3 := HN1.out.below hb3
  have HN3 := Lib.hid hn3
  have HK3 := Lib.hid (HK1.out.trans (Keeps.of_below (S := fun _ => False) hb3) (fun _ f => f.elim))
  obtain ⟨ao3, cap3, c0, c1, f0, f1, _⟩ := hn3.cells
  have HD3 := Lib.hid hd3
  have HIN2 := HIN.out
  clear hd3 hk3 hn3 hb3
  by_cases hbig : MA < valB zs
  · have e1 : decNum zs 0 k = (0, zs, 2) := by rw [HDN.out, if_pos hbig]
    have HR := Lib.hid (show inNum k st = (0, (st1.1, true)) by rw [HIN2]; simp [hbig])
    rw [e1] at HD3 ⊢
    clear hbig e1 HIN2
    have hDE : decEnd zs 2 = 2 := rfl
    have HDE := Lib.hid hDE
    clear hDE
    cases hbad : st1.2
    · rw [hbad] at c1
      go_wp2_with (go_at_call 96; refine (dec_end q gd zs 2 w3 HD3.out).mono ?_; rintro en w4 ⟨rfl, rfl⟩; rw [HDE.out])
      go_ret
      refine ⟨ret_int (by rw [HR.out]), by rw [HR.out]; exact HN3.out.flag true, HK3.out.setCell (p := ⟨p, 1, none⟩) (Or.inl rfl) _⟩
    · rw [hbad] at c1
      go_wp2
      go_ret
      refine ⟨ret_int (by rw [HR.out]), by rw [HR.out]; exact HN3.out.flag true, HK3.out.setCell (p := ⟨p, 1, none⟩) (Or.inl rfl) _⟩
  · have e1 : decNum zs 0 k = (valB zs, [], 0) := by rw [HDN.out, if_neg hbig]
    have HR := Lib.hid (show inNum k st = (valB zs, (st1.1, st1.2)) by rw [HIN2]; simp [hbig])
    rw [e1] at HD3 ⊢
    clear hbig e1 HIN2
    have hDE : decEnd [] 0 = 0 := rfl
    have HDE := Lib.hid hDE
    clear hDE
    generalize valB zs = x at *
    cases hbad : st1.2
    · rw [hbad] at c1
      go_wp2_with (go_at_call 96; refine (dec_end q gd [] 0 w3 HD3.out).mono ?_; rintro en w4 ⟨rfl, rfl⟩; rw [HDE.out])
      go_ret
      refine ⟨ret_int (by rw [HR.out]), by rw [HR.out, hbad]; exact HN3.out.flag false, HK3.out.setCell (p := ⟨p, 1, none⟩) (Or.inl rfl) _⟩
    · rw [hbad] at c1
      go_wp2
      go_ret
      refine ⟨ret_int (by rw [HR.out]), by rw [HR.out, hbad]; exact HN3.out.flag true, HK3.out.setCell (p := ⟨p, 1, none⟩) (Or.inl rfl) _⟩

set_option maxRecDepth 100000 in
set_option maxHeartbeats 1000000 in
theorem event_req (r : EV) (w : World) :
    Calls Try.prog 67 #[.agg r.cells] w fun e w' => e = .returned (.agg r.rq.cells) ∧ Below w.heap.size w w' := by
  unfold EV.cells
  go_enter Try.func67, Try.ntmps67
  go_wp2
  refine bodyPost_ret (v := .agg #[.int .i64 r.k, .int .i64 r.t, .int .i64 r.a, .int .i64 r.n, .int .i64 r.i, .int .i64 r.d, .string r.h, .string r.s]) (by simp [results, Try.results67, go_sem]) rfl ⟨rfl, ((Below.refl _ _).alloc (Nat.le_refl _) _).alloc (by simp) _⟩

end Go.Proofs.Ytadejcpifabpoaa
