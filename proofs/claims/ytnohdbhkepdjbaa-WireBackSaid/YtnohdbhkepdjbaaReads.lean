/- Contract of cfllaw4.reads. -/
import Derived.Test.YtnohdbhkepdjbaaPack
import Derived.Test.YtnohdbhkepdjbaaFew
import Derived.Deep.RegionWith
namespace Go.Proofs.Ytnohdbhkepdjbaa
open Go.RowKit
set_option linter.unusedVariables false

def D1 (B w : World) (pd : Nat) (zs : List Int) (e : Int) : Prop := ∃ g, DecAt 72 w pd g zs e ∧ Below B.heap.size B w ∧ B.heap.size ≤ pd
theorem D1.below {B w w' : World} {pd : Nat} {zs : List Int} {e : Int} (h : D1 B w pd zs e) (hb : Below w.heap.size w w') : D1 B w' pd zs e := by
  obtain ⟨g, h1, h2, h3⟩ := h
  exact ⟨g, h1.keep (Keeps.of_below (S := fun _ => False) hb) (fun f => f) (Or.inr (fun f => f)), h2.trans (hb.mono h2.size), h3⟩
theorem D1.base {B w : World} {pd : Nat} {zs : List Int} {e : Int} (h : D1 B w pd zs e) : Below B.heap.size B w := by obtain ⟨g, h1, h2, h3⟩ := h; exact h2
theorem D1.inB {B w : World} {pd : Nat} {zs : List Int} {e : Int} (h : D1 B w pd zs e) : InB zs := by obtain ⟨g, ⟨_, _, _, _, _, _, h, _⟩, _⟩ := h; exact h
theorem decBytes_in (zs : List Int) (e : Int) (h : InB zs) : InB (decBytes zs e).1 := by
  unfold decBytes
  split
  · split
    · split
      · intro z hz; cases hz
      · intro z hz; exact h z (List.mem_of_mem_drop (List.mem_of_mem_take hz))
    · intro z hz; cases hz
  · intro z hz; cases hz
theorem D1.bytes {B w : World} {pd : Nat} {zs : List Int} {e : Int} (h : D1 B w pd zs e) (r : List Int × List Int × Int) (hr : decBytes zs e = r) :
    Calls Try.prog 42 #[.pointer (some ⟨pd, 0, none⟩)] w fun en w' => ∃ ao cap, en = .returned (.slice ao r.1.length cap) ∧ IntsAt .u8 w' ao r.1 ∧ Below B.heap.size B w' ∧ D1 B w' pd r.2.1 r.2.2 := by
  obtain ⟨g, h1, h2, h3⟩ := h
  subst hr
  refine (dec_bytes pd g zs e w h1).mono fun _ _ ⟨⟨b1, b2⟩, ao, cap, a, b, _⟩ => ?_
  have hb := h2.trans (b2.below h2.size (fun k hk => by omega))
  exact ⟨ao, cap, a, (owns_at b).2.1, hb, g, b1, hb, h3⟩
theorem D1.num {B w : World} {pd : Nat} {zs : List Int} {e : Int} (h : D1 B w pd zs e) (size : Int) (r : Int × List Int × Int) (hr : decNum zs e size = r) :
    Calls Try.prog 40 #[.pointer (some ⟨pd, 0, none⟩), .int .i64 size] w fun en w' => en = .returned (.int .i64 r.1) ∧ Below B.heap.size B w' ∧ D1 B w' pd r.2.1 r.2.2 := by
  obtain ⟨g, h1, h2, h3⟩ := h
  subst hr
  refine (dec_num pd g zs e size w h1).mono fun _ _ ⟨a, b1, b2⟩ => ?_
  have hb := h2.trans (b2.below h2.size (fun k hk => by omega))
  exact ⟨a, hb, g, b1, hb, h3⟩
theorem D1.ende {B w : World} {pd : Nat} {zs : List Int} {e : Int} (h : D1 B w pd zs e) :
    Calls Try.prog 46 #[.pointer (some ⟨pd, 0, none⟩)] w fun en w' => en = .returned (.int .i64 (decEnd zs e)) ∧ w = w' := by
  obtain ⟨g, h1, h2, h3⟩ := h
  exact dec_end pd g zs e w h1
theorem D1.drew {B w : World} {pd : Nat} {zs : List Int} {e : Int} (h : D1 B w pd zs e) : D1 B w.drew pd zs e := h.below (Below.refl _ _).drew

set_option maxRecDepth 100000 in
set_option maxHeartbeats 2000000 in
theorem reads_any (ao : Option Addr) (zs : List Int) (n cap : Nat) (to_ : Option Addr) (bs : List BSl) (m tcap : Nat) (w : World) (hn : zs.length = n) (hz : IntsAt .u8 w ao zs) (hB : InB zs) (hl : n ≤ 140737488355328)
    (hm : bs.length = m) (ht : BytesList w to_ bs) (hm2 : m ≤ 1000) :
    Calls Try.prog 49 #[.slice ao n cap, .slice to_ m tcap] w fun e w' => e = .returned (.bool (readsF 0 (bs.map (·.zs)) zs 0)) ∧ Below w.heap.size w w' := by
  obtain ⟨R, hR⟩ : ∃ R, R = readsF 0 (bs.map (·.zs)) zs 0 := ⟨_, rfl⟩
  rw [← hR]
  have HND := Lib.hid (newDec ao zs n cap w hn hz hB hl)
  have HT := Lib.hid ht
  have HM := Lib.hid hm
  have HR := Lib.hid hR
  clear hz hB hn ht hm hR
  go_enter Try.func49, Try.ntmps49
  go_wp2_with fail
  refine HND.out.mono ?_
  rintro e w1 ⟨pd, g, rfl, hd, hb1, hpd, hg⟩
  have H1 := Lib.hid (show D1 w w1 pd zs 0 from ⟨g, hd, hb1, hpd⟩)
  clear hd hb1 hpd hg HND
  go_wp2_with fail
  go_loopw [6] (fun i wr => ∃ k : Nat, ∃ zs' : List Int, ∃ e : Int, k ≤ m ∧ i = .int .i64 k ∧ D1 w wr pd zs' e ∧ readsF k ((bs.map (·.zs)).drop k) zs' e = R) (fun i _ => m - (intOf i).toNat)
  case atStart => exact ⟨0, zs, 0, Nat.zero_le _, rfl, H1.out, HR.out.symm⟩
  case round =>
    obtain ⟨k, zs', e, hk, rfl, hD, hF⟩ := hrel
    have HD := Lib.hid hD
    have HBW := Lib.hid hD.base
    by_cases hlt : k < m
    · have hkb : k < bs.length := by rw [HM.out]; exact hlt
      have HT2 : Hid (∃ b off, to_ = some ⟨b, off, none⟩ ∧ ∀ w', Below w.heap.size w w' → w'.cell? ⟨b, off + k, none⟩ = some (.slice bs[k].ao bs[k].zs.length bs[k].cap)) := Lib.hid (by
        obtain ⟨b, off, h1, h2⟩ := bl_cell HT.out k hkb
        refine ⟨b, off, h1, fun w' hb => ?_⟩
        obtain ⟨b', off', h1', h2'⟩ := bl_cell (HT.out.below hb) k hkb
        rw [h1] at h1'; cases h1'; exact h2')
      have HX : Hid (∀ w', Below w.heap.size w w' → IntsAt .u8 w' bs[k].ao bs[k].zs) := Lib.hid (fun w' hb => ints_below (HT.out.2 _ (List.getElem_mem hkb)).1 hb)
      have HXB := Lib.hid (HT.out.2 _ (List.getElem_mem hkb)).2.1
      have hF2 : readsF k (bs[k].zs :: (bs.map (·.zs)).drop (k + 1)) zs' e = R := by
        rw [← hF, List.drop_eq_getElem_cons (i := k) (by simpa using hkb)]; simp
      have HRB := Lib.hid (decBytes_in zs' e hD.inB)
      simp only [readsF] at hF2
      generalize bs[k] = x at *
      generalize hr : decBytes zs' e = r at *
      obtain ⟨R1, z1, e1⟩ := r
      generalize hq : decNum z1 e1 3 = q at *
      obtain ⟨q1, z2, e2⟩ := q
      have HDB := Lib.hid hr
      have HDN := Lib.hid hq
      have HF := Lib.hid hF2
      obtain ⟨tb, toff, rfl, htc⟩ := HT2.out
      have HTC := Lib.hid htc
      have k0 := htc wr hD.base
      have i1 : (0 : Int) ≤ (k : Int) := by omega
      have i2 : (k : Int) < (m : Int) := by omega
      clear hD hF hF2 htc hr hq HT2
      by_cases c1 : eqB R1 x.zs = true
      · by_cases c2 : (q1 == (k : Int)) = true
        · have c3 : (q1 != (k : Int)) = false := by simpa using c2
          go_wp2_with fail
          go_region_held3 (fun w' => w'.cell? ⟨tb, toff + k, none⟩ = some (.slice x.ao x.zs.length x.cap))
            (first | go_keep | exact HTC.out _ (by assumption))
            ((first
              | (go_at_call 42; refine (HD.out.drew.bytes _ HDB.out).mono ?_; rintro e w2 ⟨ao1, cap1, rfl, hi1, hb2, hd2⟩)
              | (go_at_call 38; refine (bytes_eq ao1 x.ao R1 x.zs _ _ _ _ _ rfl rfl hi1 (HX.out _ (by assumption)) HRB.out HXB.out).mono ?_; rintro e w3 ⟨rfl, rfl⟩)
              | (go_at_call 40; refine (hd2.num 3 _ HDN.out).mono ?_; rintro e w3 ⟨rfl, hb3, hd3⟩)))
          go_wp2
          go_roundw
          case rel =>
            have h := HF.out
            rw [c1, c2, Bool.true_and, Bool.true_and] at h
            exact ⟨k + 1, z2, e2, by omega, by go_num, hd3, h⟩
          case measure => simp [intOf]; omega
        · have c2' : (q1 == (k : Int)) = false := by simpa using c2
          have c3 : (q1 != (k : Int)) = true := by simpa using c2
          have HRF := Lib.hid (show false = R by have h := HF.out; rw [c1, c2'] at h; simpa using h)
          clear c2
          go_wp2_with fail
          go_region_held3 (fun w' => w'.cell? ⟨tb, toff + k, none⟩ = some (.slice x.ao x.zs.length x.cap))
            (first | go_keep | exact HTC.out _ (by assumption))
            ((first
              | (go_at_call 42; refine (HD.out.drew.bytes _ HDB.out).mono ?_; rintro e w2 ⟨ao1, cap1, rfl, hi1, hb2, hd2⟩)
              | (go_at_call 38; refine (bytes_eq ao1 x.ao R1 x.zs _ _ _ _ _ rfl rfl hi1 (HX.out _ (by assumption)) HRB.out HXB.out).mono ?_; rintro e w3 ⟨rfl, rfl⟩)
              | (go_at_call 40; refine (hd2.num 3 _ HDN.out).mono ?_; rintro e w3 ⟨rfl, hb3, hd3⟩)))
          go_wp2
          go_ret
          exact ⟨ret_bool HRF.out, hb3⟩
      · have c1' : eqB R1 x.zs = false := by simpa using c1
        have HRF := Lib.hid (show false = R by have h := HF.out; rw [c1'] at h; simpa using h)
        clear c1
        go_wp2_with fail
        first | (go_region_with (first
                | (go_at_call 42; refine (HD.out.drew.bytes _ HDB.out).mono ?_; rintro e w2 ⟨ao1, cap1, rfl, hi1, hb2, hd2⟩; have k2 := HTC.out _ hb2)
                | (go_at_call 38; refine (bytes_eq ao1 x.ao R1 x.zs _ _ _ _ _ rfl rfl hi1 (HX.out _ (by assumption)) HRB.out HXB.out).mono ?_; rintro e w3 ⟨rfl, rfl⟩))) | fail
        all_goals
          go_wp2
          go_ret
          exact ⟨ret_bool HRF.out, hb2⟩
    · obtain rfl : k = m := by omega
      have HRE := Lib.hid (show (decEnd zs' e == 0) = R by
        rw [← hF, List.drop_of_length_le (by simp [HM.out])]; rfl)
      clear hF hD hlt
      go_wp2_with fail
      refine HD.out.ende.mono ?_
      rintro e' w2 ⟨rfl, rfl⟩
      go_wp2
      go_ret
      exact ⟨ret_bool HRE.out, HBW.out⟩

end Go.Proofs.Ytnohdbhkepdjbaa
