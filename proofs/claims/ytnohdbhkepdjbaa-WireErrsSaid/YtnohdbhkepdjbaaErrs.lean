/- WireErrs is true for every input, and its arguments read behind the call as before; no condition. -/
import Derived.Test.YtnohdbhkepdjbaaDec4
import Derived.Test.YtnohdbhkepdjbaaLaw4
namespace Go.Proofs.Ytnohdbhkepdjbaa
open Go.ChangeShapes Go.WideShapes Go.ChangeAt Go.RowKit
set_option linter.unusedVariables false


def ED (W w : World) (pe : Nat) (bs : List Int) (e : Int) (pd : Nat) (zs : List Int) (er : Int) : Prop :=
  ∃ v g, EncAt 66 w pe v bs e ∧ DecAt 72 w pd g zs er ∧ Below W.heap.size W w ∧ W.heap.size ≤ pe ∧ (∀ k, v.ownBlock = some k → W.heap.size ≤ k) ∧ W.heap.size ≤ pd ∧ ¬ fpE pe v pd ∧ (zs = [] ∨ ¬ fpE pe v g)
theorem ED.below {W w w' : World} {pe : Nat} {bs : List Int} {e : Int} {pd : Nat} {zs : List Int} {er : Int} (h : ED W w pe bs e pd zs er) (hb : Below w.heap.size w w') : ED W w' pe bs e pd zs er := by
  obtain ⟨v, g, h1, h2, h3, h4, h5, h6, h7, h8⟩ := h
  exact ⟨v, g, h1.keep (Keeps.of_below (S := fun _ => False) hb) (fun _ _ f => f), h2.keep (Keeps.of_below (S := fun _ => False) hb) (fun f => f) (Or.inr (fun f => f)), h3.trans (hb.mono h3.size), h4, h5, h6, h7, h8⟩
theorem ED.post {W w w' : World} {pe : Nat} {v : Value} {bs bs' : List Int} {e e' : Int} {pd g : Nat} {zs : List Int} {er : Int}
    (h2 : DecAt 72 w pd g zs er) (h3 : Below W.heap.size W w) (h4 : W.heap.size ≤ pe) (h5 : ∀ k, v.ownBlock = some k → W.heap.size ≤ k) (h6 : W.heap.size ≤ pd) (h7 : ¬ fpE pe v pd) (h8 : zs = [] ∨ ¬ fpE pe v g)
    (hp : EncPost 66 w pe v bs' e' w') : ED W w' pe bs' e' pd zs er := by
  obtain ⟨v', a1, a2, a3⟩ := hp
  have hpd := h2.lt
  refine ⟨v', g, a1, h2.keep a2 h7 h8, h3.trans (a2.below h3.size (fun k hk => by rcases hk with rfl | hk; exact h4; exact h5 k hk)), h4, fun k hk => ?_, h6, ?_, ?_⟩
  · rcases a3 k hk with h | h
    · exact h5 k h
    · have := h3.size; omega
  · rintro (h | h)
    · exact h7 (Or.inl h)
    · rcases a3 _ h with h | h
      · exact h7 (Or.inr h)
      · omega
  · rcases h8 with h | h
    · exact Or.inl h
    · rcases h2.glt with hg | hg
      · exact Or.inl hg
      · refine Or.inr ?_
        rintro (h' | h')
        · exact h (Or.inl h')
        · rcases a3 _ h' with h' | h'
          · exact h (Or.inr h')
          · omega
theorem ED.num {W w : World} {pe : Nat} {bs : List Int} {e : Int} {pd : Nat} {zs : List Int} {er : Int} (h : ED W w pe bs e pd zs er) (n size : Int) (r : List Int × Int) (hr : encNum bs e n size = r) (hl : bs.length + 8 ≤ 140737488355328) :
    Calls Try.prog 21 #[.pointer (some ⟨pe, 0, none⟩), .int .i64 n, .int .i64 size] w fun en w' => en = .returned (.tuple #[]) ∧ ED W w' pe r.1 r.2 pd zs er := by
  obtain ⟨v, g, h1, h2, h3, h4, h5, h6, h7, h8⟩ := h
  subst hr
  exact (enc_num pe v bs e n size w h1 hl).mono fun _ _ ⟨a, b⟩ => ⟨a, ED.post (e := e) (bs := bs) h2 h3 h4 h5 h6 h7 h8 b⟩
theorem ED.bytes {W w0 w : World} {pe : Nat} {bs : List Int} {e : Int} {pd : Nat} {zs : List Int} {er : Int} (h0 : ED W w0 pe bs e pd zs er) (hb : Below w0.heap.size w0 w) (ao : Option Addr) (xs : List Int) (n cap : Nat) (hn : xs.length = n) (hx : IntsAt .u8 w ao xs) (hf : ∀ a, ao = some a → w0.heap.size ≤ a.block)
    (r : List Int × Int) (hr : encBytes bs e xs = r) (hl : bs.length + 8 + n ≤ 140737488355328) :
    Calls Try.prog 35 #[.pointer (some ⟨pe, 0, none⟩), .slice ao n cap] w fun en w' => en = .returned (.tuple #[]) ∧ ED W w' pe r.1 r.2 pd zs er := by
  obtain ⟨v, g, h1, h2, h3, h4, h5, h6, h7, h8⟩ := h0
  subst hr
  have k1 := h1.keep (Keeps.of_below (S := fun _ => False) hb) (fun _ _ f => f)
  have k2 := h2.keep (Keeps.of_below (S := fun _ => False) hb) (fun f => f) (Or.inr (fun f => f))
  exact (enc_bytes pe v bs e w k1 ao xs n cap hn hx (Or.inr (fun a ha hk => by have := h1.lt _ hk; have := hf a ha; omega)) hl).mono fun _ _ ⟨a, b⟩ => ⟨a, ED.post (e := e) (bs := bs) k2 (h3.trans (hb.mono h3.size)) h4 h5 h6 h7 h8 b⟩
theorem ED.done {W w : World} {pe : Nat} {bs : List Int} {e : Int} {pd : Nat} {zs : List Int} {er : Int} (h : ED W w pe bs e pd zs er) (hl : bs.length ≤ 140737488355328) (R : List Int) (hR : doneB bs e = R) (n : Nat) (hn : R.length = n) :
    Calls Try.prog 22 #[.pointer (some ⟨pe, 0, none⟩)] w fun en w' => ∃ ao cap, en = .returned (.tuple #[.slice ao n cap, .int .i64 e]) ∧ ED W w' pe bs e pd zs er := by
  have h' := h
  obtain ⟨v, g, h1, h2, h3, h4, h5, h6, h7, h8⟩ := h'
  subst hR
  subst hn
  exact (enc_done pe v bs e w h1 hl).mono fun _ _ ⟨ao, cap, a, b⟩ => ⟨ao, cap, a, h.below b.2.1⟩
theorem ED.dnum {W w : World} {pe : Nat} {bs : List Int} {e : Int} {pd : Nat} {zs : List Int} {er : Int} (h : ED W w pe bs e pd zs er) (size : Int) (r : Int × List Int × Int) (hr : decNum zs er size = r) (hz : r.2.1 = zs) :
    Calls Try.prog 40 #[.pointer (some ⟨pd, 0, none⟩), .int .i64 size] w fun en w' => en = .returned (.int .i64 r.1) ∧ ED W w' pe bs e pd r.2.1 r.2.2 := by
  obtain ⟨v, g, h1, h2, h3, h4, h5, h6, h7, h8⟩ := h
  subst hr
  refine (dec_num pd g zs er size w h2).mono fun _ _ ⟨a, b1, b2⟩ => ⟨a, v, g, h1.keep b2 (fun k hk hp => h7 (hp ▸ hk)), b1, h3.trans (b2.below h3.size (fun k hk => by omega)), h4, h5, h6, h7, by rw [hz]; exact h8⟩
theorem ED.dbytes {W w : World} {pe : Nat} {bs : List Int} {e : Int} {pd : Nat} {zs : List Int} {er : Int} (h : ED W w pe bs e pd zs er) (r : List Int × List Int × Int) (hr : decBytes zs er = r) (n : Nat) (hn : r.1.length = n) :
    Calls Try.prog 42 #[.pointer (some ⟨pd, 0, none⟩)] w fun en w' => ∃ ao cap, en = .returned (.slice ao n cap) ∧ Below W.heap.size W w' := by
  obtain ⟨v, g, h1, h2, h3, h4, h5, h6, h7, h8⟩ := h
  subst hr
  subst hn
  exact (dec_bytes pd g zs er w h2).mono fun _ _ ⟨⟨b1, b2⟩, ao, cap, a, _⟩ => ⟨ao, cap, a, h3.trans (b2.below h3.size (fun k hk => by omega))⟩
theorem ED.left {W w : World} {pe : Nat} {bs : List Int} {e : Int} {pd : Nat} {zs : List Int} {er : Int} (h : ED W w pe bs e pd zs er) :
    Calls Try.prog 44 #[.pointer (some ⟨pd, 0, none⟩)] w fun en w' => en = .returned (.int .i64 zs.length) ∧ w = w' := by
  obtain ⟨v, g, h1, h2, _⟩ := h
  exact dec_left pd g zs er w h2
theorem ED.err {W w : World} {pe : Nat} {bs : List Int} {e : Int} {pd : Nat} {zs : List Int} {er : Int} (h : ED W w pe bs e pd zs er) :
    Calls Try.prog 45 #[.pointer (some ⟨pd, 0, none⟩)] w fun en w' => en = .returned (.int .i64 er) ∧ w = w' := by
  obtain ⟨v, g, h1, h2, _⟩ := h
  exact dec_errno pd g zs er w h2
theorem ED.ende {W w : World} {pe : Nat} {bs : List Int} {e : Int} {pd : Nat} {zs : List Int} {er : Int} (h : ED W w pe bs e pd zs er) (r : Int) (hr : decEnd zs er = r) :
    Calls Try.prog 46 #[.pointer (some ⟨pd, 0, none⟩)] w fun en w' => en = .returned (.int .i64 r) ∧ w = w' := by
  obtain ⟨v, g, h1, h2, _⟩ := h
  subst hr
  exact dec_end pd g zs er w h2

theorem wrap_pow (s : Nat) (h : s < 8) : wrap64 ((2 : Int) ^ (8 * s)) = 2 ^ (8 * s) := by
  have e : (2 : Int) ^ (8 * s) = 256 ^ s := by rw [Int.pow_mul]; rfl
  have h0 : (0 : Int) < 2 ^ (8 * s) := Int.pow_pos (by decide)
  have h1 := pow256 s (by omega)
  rw [← e] at h1
  unfold wrap64; omega

set_option maxRecDepth 100000 in
set_option maxHeartbeats 8000000 in
theorem errs_core (n size : Int) (W : World) (bs2 : List Int) (e2 : Int) (bl : List Int) (HN2 : Hid (encNum [1] 0 n size = (bs2, e2))) (HL2 : bs2.length ≤ 9)
    (b3 : List Int) (HB3 : Hid (encBytes bs2 e2 [9] = (b3, e2))) (hlen : b3.length ≤ 100) (hbl : Hid (doneB b3 e2 = bl))
    (hc : (e2 = 0 ∧ 1 ≤ size ∧ size ≤ 8 ∧ 0 ≤ n ∧ n ≤ 4611686018427387904 ∧ bl.length = (4 + size).toNat ∧ (size = 8 ∨ ∃ s : Nat, size = s ∧ s < 8 ∧ n < 2 ^ (8 * s))) ∨ (e2 = 1 ∧ bl = [] ∧ (size < 1 ∨ 8 < size ∨ (1 ≤ size ∧ size ≤ 8 ∧ n < 0) ∨ (1 ≤ size ∧ size ≤ 8 ∧ 4611686018427387904 < n) ∨ ∃ s : Nat, size = s ∧ 1 ≤ s ∧ s < 8 ∧ 0 ≤ n ∧ n ≤ 4611686018427387904 ∧ 2 ^ (8 * s) ≤ n))) :
    Calls Try.prog 13 #[.int .i64 n, .int .i64 size] W fun e w' => e = .returned (.bool true) ∧ Below W.heap.size W w' := by
  have hb0 := Lib.hid (Below.refl W.heap.size W)
  have HN1 := Lib.hid (show encNum [] 0 1 1 = ([1], 0) by decide)
  have HD1 := Lib.hid (show decNum [1, 2, 3] 0 5 = (0, [1, 2, 3], 2) by decide)
  have HD2 := Lib.hid (show decNum [1, 2, 3] 2 1 = (0, [1, 2, 3], 2) by decide)
  have HD3 := Lib.hid (show decBytes [1, 2, 3] 2 = ([], [1, 2, 3], 2) by decide)
  have HD4 := Lib.hid (show decEnd [1, 2, 3] 2 = 2 by decide)
  have HC := Lib.hid hc
  clear hc
  go_enter Try.func13, Try.ntmps13
  go_wp2_with fail
  refine (first4 W _ hb0.out).mono ?_
  rintro e w1 ⟨rfl, hb1⟩
  have hs1 := hb1.size
  go_wp2_with fail
  refine (newEnc _).mono ?_
  rintro e w2 ⟨rfl, hw2⟩
  have hx := enc_new w1 66
  rw [← hw2] at hx
  have hb2 : Below W.heap.size W w2 := by rw [hw2]; exact hb1.alloc hb1.size _
  have hs2 : w1.heap.size < w2.heap.size := by rw [hw2]; simp
  clear hw2
  have HX := Lib.hid hx
  clear hx
  have H3 : Hid (IntsAt .u8 (w2.alloc (.cells #[.int .u8 1, .int .u8 2, .int .u8 3] 5)) (some ⟨w2.heap.size, 0, none⟩) [1, 2, 3]) := Lib.hid (Or.inr ⟨_, _, rfl, fun i hi => by match i, hi with | 0, _ => simp | 1, _ => simp | 2, _ => simp⟩)
  have HND := Lib.hid (newDec (some ⟨w2.heap.size, 0, none⟩) [1, 2, 3] 3 3 _ rfl H3.out (by unfold InB; decide) (by decide))
  go_wp2_with fail
  refine HND.out.mono ?_
  rintro e w3 ⟨pd, g, rfl, hd, hb3, hpd, hg⟩
  simp only [World.size_alloc] at hpd hg
  have hb3' := ((Below.refl w2.heap.size w2).alloc (Nat.le_refl _) (.cells #[.int .u8 1, .int .u8 2, .int .u8 3] 5)).trans (hb3.mono (by simp))
  have hED : ED W w3 w1.heap.size [] 0 pd [1, 2, 3] 0 := ⟨_, g, HX.out.keep (Keeps.of_below (S := fun _ => False) hb3') (fun _ _ f => f), hd, hb2.trans (hb3'.mono (by omega)), hs1, (fun k hk => by cases hk), by omega, (by rintro (h | h); omega; cases h), Or.inr (by rintro (h | h); omega; cases h)⟩
  have E3 := Lib.hid hED
  clear H3 HND hd hb3 hpd hg hb3' HX hs2 hb2 hb1 hED
  go_wp2_with fail
  refine (E3.out.num 1 1 _ HN1.out (by decide)).mono ?_
  rintro e w4 ⟨rfl, h4⟩
  have E4 := Lib.hid h4
  clear E3 h4
  go_wp2_with fail
  refine (E4.out.num n size _ HN2.out (by decide)).mono ?_
  rintro e w5 ⟨rfl, h5⟩
  have E5 := Lib.hid h5
  clear E4 h5
  rcases HC.out with ⟨rfl, q1, q2, q3, q4, q5, q6⟩ | ⟨rfl, q1, q6⟩
  · have HLE := Lib.hid q5
    rcases q6 with rfl | ⟨s, rfl, q7, q8⟩
    · go_wp2_with fail
      refine (E5.out.bytes ((Below.refl _ _).alloc (Nat.le_refl _) _) (some ⟨w5.heap.size, 0, none⟩) [9] 1 1 rfl (Or.inr ⟨_, _, rfl, fun i hi => by match i, hi with | 0, _ => simp⟩) (fun a ha => by cases ha; simp) _ HB3.out (by omega)).mono ?_
      rintro e w6 ⟨rfl, h6⟩
      have E6 := Lib.hid h6
      clear E5 h6
      go_wp2_with fail
      refine (E6.out.done (by show b3.length ≤ _; omega) _ hbl.out _ HLE.out).mono ?_
      rintro e w7 ⟨ao, cap, rfl, h7⟩
      have E7 := Lib.hid h7
      clear E6 h7
      go_wp2_with fail
      refine (E7.out.dnum 5 _ HD1.out rfl).mono ?_
      rintro e w8 ⟨rfl, h8⟩
      have E8 := Lib.hid h8
      clear E7 h8
      go_wp2_with fail
      refine (E8.out.dnum 1 _ HD2.out rfl).mono ?_
      rintro e w9 ⟨rfl, h9⟩
      have E9 := Lib.hid h9
      clear E8 h9
      go_wp2_with fail
      refine (first4_any _).mono ?_
      rintro e w10 ⟨rfl, hb10⟩
      have E10 := Lib.hid (E9.out.below hb10)
      clear E9 hb10
      go_wp2_with fail
      refine E10.out.err.mono ?_
      rintro e w' ⟨rfl, rfl⟩
      go_wp2_with fail
      refine E10.out.left.mono ?_
      rintro e w' ⟨rfl, rfl⟩
      go_wp2_with fail
      refine (E10.out.ende 2 HD4.out).mono ?_
      rintro e w' ⟨rfl, rfl⟩
      go_wp2_with fail
      refine (E10.out.dbytes _ HD3.out 0 rfl).mono ?_
      rintro e w11 ⟨ao2, cap2, rfl, hb11⟩
      go_wp2
      go_ret
      exact ⟨rfl, hb11⟩
    · have q7' : (s : Int) < 8 := by omega
      have q9 : min (8 * s) 64 = 8 * s := by omega
      have q10 : ((s : Int) == 8) = false := by simp; omega
      have q11 : (4 + (s : Int)).toNat = 4 + s := by omega
      rw [q11] at HLE
      have q12 := wrap_pow s q7
      clear HC q5 q11
      go_wp2_with fail
      refine (E5.out.bytes ((Below.refl _ _).alloc (Nat.le_refl _) _) (some ⟨w5.heap.size, 0, none⟩) [9] 1 1 rfl (Or.inr ⟨_, _, rfl, fun i hi => by match i, hi with | 0, _ => simp⟩) (fun a ha => by cases ha; simp) _ HB3.out (by omega)).mono ?_
      rintro e w6 ⟨rfl, h6⟩
      have E6 := Lib.hid h6
      clear E5 h6
      go_wp2_with fail
      refine (E6.out.done (by show b3.length ≤ _; omega) _ hbl.out _ HLE.out).mono ?_
      rintro e w7 ⟨ao, cap, rfl, h7⟩
      have E7 := Lib.hid h7
      clear E6 h7
      go_wp2_with fail
      refine (E7.out.dnum 5 _ HD1.out rfl).mono ?_
      rintro e w8 ⟨rfl, h8⟩
      have E8 := Lib.hid h8
      clear E7 h8
      go_wp2_with fail
      refine (E8.out.dnum 1 _ HD2.out rfl).mono ?_
      rintro e w9 ⟨rfl, h9⟩
      have E9 := Lib.hid h9
      clear E8 h9
      go_wp2_with fail
      refine (first4_any _).mono ?_
      rintro e w10 ⟨rfl, hb10⟩
      have E10 := Lib.hid (E9.out.below hb10)
      clear E9 hb10
      go_wp2_with fail
      refine E10.out.err.mono ?_
      rintro e w' ⟨rfl, rfl⟩
      go_wp2_with fail
      refine E10.out.left.mono ?_
      rintro e w' ⟨rfl, rfl⟩
      go_wp2_with fail
      refine (E10.out.ende 2 HD4.out).mono ?_
      rintro e w' ⟨rfl, rfl⟩
      go_wp2_with fail
      refine (E10.out.dbytes _ HD3.out 0 rfl).mono ?_
      rintro e w11 ⟨ao2, cap2, rfl, hb11⟩
      go_wp2
      go_ret
      exact ⟨rfl, hb11⟩
  · have HLE := Lib.hid (show bl.length = 0 by rw [q1]; rfl)
    rcases q6 with q6 | q6 | ⟨q6, q7, q8⟩ | ⟨q6, q7, q8⟩ | ⟨s, rfl, q6, q7, q8, q9, q10⟩
    · clear HC
      go_wp2_with fail
      refine (E5.out.bytes ((Below.refl _ _).alloc (Nat.le_refl _) _) (some ⟨w5.heap.size, 0, none⟩) [9] 1 1 rfl (Or.inr ⟨_, _, rfl, fun i hi => by match i, hi with | 0, _ => simp⟩) (fun a ha => by cases ha; simp) _ HB3.out (by omega)).mono ?_
      rintro e w6 ⟨rfl, h6⟩
      have E6 := Lib.hid h6
      clear E5 h6
      go_wp2_with fail
      refine (E6.out.done (by show b3.length ≤ _; omega) _ hbl.out _ HLE.out).mono ?_
      rintro e w7 ⟨ao, cap, rfl, h7⟩
      have E7 := Lib.hid h7
      clear E6 h7
      go_wp2_with fail
      refine (E7.out.dnum 5 _ HD1.out rfl).mono ?_
      rintro e w8 ⟨rfl, h8⟩
      have E8 := Lib.hid h8
      clear E7 h8
      go_wp2_with fail
      refine (E8.out.dnum 1 _ HD2.out rfl).mono ?_
      rintro e w9 ⟨rfl, h9⟩
      have E9 := Lib.hid h9
      clear E8 h9
      go_wp2_with fail
      refine (first4_any _).mono ?_
      rintro e w10 ⟨rfl, hb10⟩
      have E10 := Lib.hid (E9.out.below hb10)
      clear E9 hb10
      go_wp2_with fail
      refine E10.out.err.mono ?_
      rintro e w' ⟨rfl, rfl⟩
      go_wp2_with fail
      refine E10.out.left.mono ?_
      rintro e w' ⟨rfl, rfl⟩
      go_wp2_with fail
      refine (E10.out.ende 2 HD4.out).mono ?_
      rintro e w' ⟨rfl, rfl⟩
      go_wp2_with fail
      refine (E10.out.dbytes _ HD3.out 0 rfl).mono ?_
      rintro e w11 ⟨ao2, cap2, rfl, hb11⟩
      go_wp2
      go_ret
      exact ⟨rfl, hb11⟩
    · clear HC
      have q7 : 1 ≤ size := by omega
      go_wp2_with fail
      refine (E5.out.bytes ((Below.refl _ _).alloc (Nat.le_refl _) _) (some ⟨w5.heap.size, 0, none⟩) [9] 1 1 rfl (Or.inr ⟨_, _, rfl, fun i hi => by match i, hi with | 0, _ => simp⟩) (fun a ha => by cases ha; simp) _ HB3.out (by omega)).mono ?_
      rintro e w6 ⟨rfl, h6⟩
      have E6 := Lib.hid h6
      clear E5 h6
      go_wp2_with fail
      refine (E6.out.done (by show b3.length ≤ _; omega) _ hbl.out _ HLE.out).mono ?_
      rintro e w7 ⟨ao, cap, rfl, h7⟩
      have E7 := Lib.hid h7
      clear E6 h7
      go_wp2_with fail
      refine (E7.out.dnum 5 _ HD1.out rfl).mono ?_
      rintro e w8 ⟨rfl, h8⟩
      have E8 := Lib.hid h8
      clear E7 h8
      go_wp2_with fail
      refine (E8.out.dnum 1 _ HD2.out rfl).mono ?_
      rintro e w9 ⟨rfl, h9⟩
      have E9 := Lib.hid h9
      clear E8 h9
      go_wp2_with fail
      refine (first4_any _).mono ?_
      rintro e w10 ⟨rfl, hb10⟩
      have E10 := Lib.hid (E9.out.below hb10)
      clear E9 hb10
      go_wp2_with fail
      refine E10.out.err.mono ?_
      rintro e w' ⟨rfl, rfl⟩
      go_wp2_with fail
      refine E10.out.left.mono ?_
      rintro e w' ⟨rfl, rfl⟩
      go_wp2_with fail
      refine (E10.out.ende 2 HD4.out).mono ?_
      rintro e w' ⟨rfl, rfl⟩
      go_wp2_with fail
      refine (E10.out.dbytes _ HD3.out 0 rfl).mono ?_
      rintro e w11 ⟨ao2, cap2, rfl, hb11⟩
      go_wp2
      go_ret
      exact ⟨rfl, hb11⟩
    · clear HC
      go_wp2_with fail
      refine (E5.out.bytes ((Below.refl _ _).alloc (Nat.le_refl _) _) (some ⟨w5.heap.size, 0, none⟩) [9] 1 1 rfl (Or.inr ⟨_, _, rfl, fun i hi => by match i, hi with | 0, _ => simp⟩) (fun a ha => by cases ha; simp) _ HB3.out (by omega)).mono ?_
      rintro e w6 ⟨rfl, h6⟩
      have E6 := Lib.hid h6
      clear E5 h6
      go_wp2_with fail
      refine (E6.out.done (by show b3.length ≤ _; omega) _ hbl.out _ HLE.out).mono ?_
      rintro e w7 ⟨ao, cap, rfl, h7⟩
      have E7 := Lib.hid h7
      clear E6 h7
      go_wp2_with fail
      refine (E7.out.dnum 5 _ HD1.out rfl).mono ?_
      rintro e w8 ⟨rfl, h8⟩
      have E8 := Lib.hid h8
      clear E7 h8
      go_wp2_with fail
      refine (E8.out.dnum 1 _ HD2.out rfl).mono ?_
      rintro e w9 ⟨rfl, h9⟩
      have E9 := Lib.hid h9
      clear E8 h9
      go_wp2_with fail
      refine (first4_any _).mono ?_
      rintro e w10 ⟨rfl, hb10⟩
      have E10 := Lib.hid (E9.out.below hb10)
      clear E9 hb10
      go_wp2_with fail
      refine E10.out.err.mono ?_
      rintro e w' ⟨rfl, rfl⟩
      go_wp2_with fail
      refine E10.out.left.mono ?_
      rintro e w' ⟨rfl, rfl⟩
      go_wp2_with fail
      refine (E10.out.ende 2 HD4.out).mono ?_
      rintro e w' ⟨rfl, rfl⟩
      go_wp2_with fail
      refine (E10.out.dbytes _ HD3.out 0 rfl).mono ?_
      rintro e w11 ⟨ao2, cap2, rfl, hb11⟩
      go_wp2
      go_ret
      exact ⟨rfl, hb11⟩
    · clear HC
      have q9 : 0 ≤ n := by omega
      go_wp2_with fail
      refine (E5.out.bytes ((Below.refl _ _).alloc (Nat.le_refl _) _) (some ⟨w5.heap.size, 0, none⟩) [9] 1 1 rfl (Or.inr ⟨_, _, rfl, fun i hi => by match i, hi with | 0, _ => simp⟩) (fun a ha => by cases ha; simp) _ HB3.out (by omega)).mono ?_
      rintro e w6 ⟨rfl, h6⟩
      have E6 := Lib.hid h6
      clear E5 h6
      go_wp2_with fail
      refine (E6.out.done (by show b3.length ≤ _; omega) _ hbl.out _ HLE.out).mono ?_
      rintro e w7 ⟨ao, cap, rfl, h7⟩
      have E7 := Lib.hid h7
      clear E6 h7
      go_wp2_with fail
      refine (E7.out.dnum 5 _ HD1.out rfl).mono ?_
      rintro e w8 ⟨rfl, h8⟩
      have E8 := Lib.hid h8
      clear E7 h8
      go_wp2_with fail
      refine (E8.out.dnum 1 _ HD2.out rfl).mono ?_
      rintro e w9 ⟨rfl, h9⟩
      have E9 := Lib.hid h9
      clear E8 h9
      go_wp2_with fail
      refine (first4_any _).mono ?_
      rintro e w10 ⟨rfl, hb10⟩
      have E10 := Lib.hid (E9.out.below hb10)
      clear E9 hb10
      go_wp2_with fail
      refine E10.out.err.mono ?_
      rintro e w' ⟨rfl, rfl⟩
      go_wp2_with fail
      refine E10.out.left.mono ?_
      rintro e w' ⟨rfl, rfl⟩
      go_wp2_with fail
      refine (E10.out.ende 2 HD4.out).mono ?_
      rintro e w' ⟨rfl, rfl⟩
      go_wp2_with fail
      refine (E10.out.dbytes _ HD3.out 0 rfl).mono ?_
      rintro e w11 ⟨ao2, cap2, rfl, hb11⟩
      go_wp2
      go_ret
      exact ⟨rfl, hb11⟩
    · have q7' : (s : Int) < 8 := by omega
      have q7'' : (1 : Int) ≤ (s : Int) := by omega
      have q9' : min (8 * s) 64 = 8 * s := by omega
      have q11 : ((s : Int) == 8) = false := by simp; omega
      have q12 := wrap_pow s q7
      clear HC
      go_wp2_with fail
      refine (E5.out.bytes ((Below.refl _ _).alloc (Nat.le_refl _) _) (some ⟨w5.heap.size, 0, none⟩) [9] 1 1 rfl (Or.inr ⟨_, _, rfl, fun i hi => by match i, hi with | 0, _ => simp⟩) (fun a ha => by cases ha; simp) _ HB3.out (by omega)).mono ?_
      rintro e w6 ⟨rfl, h6⟩
      have E6 := Lib.hid h6
      clear E5 h6
      go_wp2_with fail
      refine (E6.out.done (by show b3.length ≤ _; omega) _ hbl.out _ HLE.out).mono ?_
      rintro e w7 ⟨ao, cap, rfl, h7⟩
      have E7 := Lib.hid h7
      clear E6 h7
      go_wp2_with fail
      refine (E7.out.dnum 5 _ HD1.out rfl).mono ?_
      rintro e w8 ⟨rfl, h8⟩
      have E8 := Lib.hid h8
      clear E7 h8
      go_wp2_with fail
      refine (E8.out.dnum 1 _ HD2.out rfl).mono ?_
      rintro e w9 ⟨rfl, h9⟩
      have E9 := Lib.hid h9
      clear E8 h9
      go_wp2_with fail
      refine (first4_any _).mono ?_
      rintro e w10 ⟨rfl, hb10⟩
      have E10 := Lib.hid (E9.out.below hb10)
      clear E9 hb10
      go_wp2_with fail
      refine E10.out.err.mono ?_
      rintro e w' ⟨rfl, rfl⟩
      go_wp2_with fail
      refine E10.out.left.mono ?_
      rintro e w' ⟨rfl, rfl⟩
      go_wp2_with fail
      refine (E10.out.ende 2 HD4.out).mono ?_
      rintro e w' ⟨rfl, rfl⟩
      go_wp2_with fail
      refine (E10.out.dbytes _ HD3.out 0 rfl).mono ?_
      rintro e w11 ⟨ao2, cap2, rfl, hb11⟩
      go_wp2
      go_ret
      exact ⟨rfl, hb11⟩

theorem walk_wireErrs (n : Int) (w0 : (Lit.int .i64 n).wf = true) (size : Int) (w1 : (Lit.int .i64 size).wf = true) (W : World) :
    Calls Try.prog 13 #[.int .i64 n, .int .i64 size] W fun e w' => e = .returned (.bool true) ∧ Below W.heap.size W w' := by
  by_cases hf : fitsB n size = true
  · have h := hf
    simp only [fitsB, mayB, Bool.and_eq_true, Bool.or_eq_true, decide_eq_true_eq] at h
    obtain ⟨⟨⟨h1, h2⟩, h3⟩, h4⟩ := h
    have h3 := (amt_iff n).1 h3
    unfold MA at h3
    obtain ⟨s, rfl⟩ := Int.eq_ofNat_of_zero_le (show 0 ≤ size by omega)
    refine errs_core n s W ([1] ++ putB n s) 0 ([1] ++ putB n s ++ putB 1 2 ++ [9]) (Lib.hid (by simp [encNum, hf])) (by simp [putB_length]; omega) ([1] ++ putB n s ++ putB 1 2 ++ [9]) (Lib.hid (by simp [encBytes])) (by simp [putB_length]; omega) (Lib.hid (by simp [doneB])) (Or.inl ⟨rfl, by omega, h2, h3.1, h3.2, by simp [putB_length]; omega, ?_⟩)
    rcases h4 with h4 | h4
    · exact Or.inl (by omega)
    · by_cases h8 : s = 8
      · exact Or.inl (by omega)
      · refine Or.inr ⟨s, rfl, by omega, ?_⟩
        rw [Int.toNat_natCast] at h4
        have hp : (0 : Int) < 2 ^ (8 * s) := Int.pow_pos (by decide)
        exact Int.not_le.1 (fun hle => by have h5 := (Int.le_ediv_iff_mul_le hp).2 (show 1 * 2 ^ (8 * s) ≤ n by omega); omega)
  · have hf' : fitsB n size = false := by simpa using hf
    refine errs_core n size W [1] 1 [] (Lib.hid (by simp [encNum, hf'])) (by decide) [1] (Lib.hid (by simp [encBytes])) (by decide) (Lib.hid (by simp [doneB])) (Or.inr ⟨rfl, rfl, ?_⟩)
    by_cases h1 : size < 1
    · exact Or.inl h1
    · by_cases h2 : 8 < size
      · exact Or.inr (Or.inl h2)
      · obtain ⟨s, rfl⟩ := Int.eq_ofNat_of_zero_le (show 0 ≤ size by omega)
        by_cases h3 : n < 0
        · exact Or.inr (Or.inr (Or.inl ⟨by omega, by omega, h3⟩))
        · by_cases h4 : 4611686018427387904 < n
          · exact Or.inr (Or.inr (Or.inr (Or.inl ⟨by omega, by omega, h4⟩)))
          · refine Or.inr (Or.inr (Or.inr (Or.inr ?_)))
            have hm : mayB (s : Int) = true := by simp [mayB]; omega
            have ha : amtB n = true := (amt_iff n).2 ⟨by omega, by unfold MA; omega⟩
            simp only [fitsB, hm, ha, Bool.true_and, Bool.or_eq_false_iff, decide_eq_false_iff_not, Int.toNat_natCast] at hf'
            have hp : (0 : Int) < 2 ^ (8 * s) := Int.pow_pos (by decide)
            refine ⟨s, rfl, by omega, by omega, by omega, by omega, ?_⟩
            exact Int.not_lt.1 (fun hlt => by have := Int.ediv_eq_zero_of_lt (show 0 ≤ n by omega) hlt; omega)

/-! ### The row's step for WireErrs: the frame. -/
theorem wireErrs_own : ownKnob Try.prog.godebug = none := by kernel_rfl
theorem wireErrs_laidOut : laidOutB Try.prog = true := by kernel_rfl
set_option maxRecDepth 100000 in
theorem wireErrs_lifted (os : Os) (started : os.Started) (H : Type) (enc : TypeId × Value → H) :
    ReturnsInHanded {} Try.checked os 13 .any (Rows.wireErrsSpec.pre6 enc Try.prog Try.f13 Rows.wireErrsRow.domain false) (Rows.wireErrsSpec.post enc Try.prog Try.f13 false true false false) := by
  refine returnsInHanded_of_change (C := Try.checked) wireErrs_own started (by kernel_rfl) Try.func13
    (ChangeSpec.witness6 (enc := enc) (C := Try.checked) false ⟨#[], #[.int .i64 0, .int .i64 0], []⟩ 8 (by kernel_rfl) (by kernel_rfl) (by kernel_rfl) (by kernel_rfl)) ?_
  intro W base args ds gs before hval0 hW hcnd _
  have hval : ∀ (j : Nat) t v, Try.f13.params[j]? = some t → args[j]? = some v → Value.okWide Try.prog W .any base t v := hval0
  have hW' := hW
  obtain ⟨p, q, hA0, hV, rfl, hfz, hnd⟩ := hW
  have hA : DataW.TrodAll enc Try.prog W 0 (fun _ => true) true Try.f13.params.toList args.toList ds p := hA0
  rw [Try.params13] at hA hval
  obtain ⟨v0, vs0, d0, ds0, p0, q0, hargs, rfl, rfl, h0, r0⟩ := trodAll_cons hA
  obtain ⟨v1, vs1, d1, ds1, p1, q1, rfl, rfl, rfl, h1, r1⟩ := trodAll_cons r0
  obtain ⟨rfl, rfl, rfl⟩ := trodAll_nil r1
  obtain rfl : args = #[v0, v1] := by cases args; simp_all
  obtain ⟨rfl, rfl⟩ := trodVars_none hV
  have k0 := h0
  have lt0 : ∀ x ∈ p0, x.block < W.heap.size := by obtain ⟨m, hm⟩ := k0; exact DataW.trod_lt m _ _ _ hm
  obtain ⟨a0, rfl, rfl, rfl, w0⟩ := open_int Try.underlying3 (hval 0 3 v0 rfl rfl) h0
  have k1 := h1
  have lt1 : ∀ x ∈ p1, x.block < W.heap.size := by obtain ⟨m, hm⟩ := k1; exact DataW.trod_lt m _ _ _ hm
  obtain ⟨a1, rfl, rfl, rfl, w1⟩ := open_int Try.underlying3 (hval 1 3 v1 rfl rfl) h1
  clear hA0 hval0
  refine (walk_wireErrs a0 w0 a1 w1 W).mono fun e W' ⟨he, bel⟩ => ?_
  subst he
  exact ⟨_, rfl, _, _, _, [], _, [], hW', trodAll_mk1 (shut_bool Try.underlying4 _), (trodAll_cons_mk (Below.trod wireErrs_laidOut (by kernel_rfl) (of_decide_eq_true (by kernel_rfl)) k0 bel lt0) (trodAll_cons_mk (Below.trod wireErrs_laidOut (by kernel_rfl) (of_decide_eq_true (by kernel_rfl)) k1 bel lt1) trodAll_mk0)), rfl, bel.frame _, fun h => by cases h⟩

theorem wireErrs_over : Rows.wireErrsRow.holds Try.pinned (OpenSpec.ofChange Rows.wireErrsSpec) :=
  OpenClaim.holds_of_wide 13 Try.f13 rfl rfl rfl rfl rfl rfl rfl ⟨rfl, rfl, rfl, rfl, rfl⟩ rfl rfl rfl rfl rfl (by kernel_rfl) Try.func13 (by kernel_rfl)
    (of_decide_eq_true (by kernel_rfl)) (by unfold Func.isWrapper; first | (rw [if_pos (by decide +kernel)]; kernel_rfl) | (rw [if_neg (by decide +kernel)]; exact ⟨rfl, rfl⟩))
    (fun os started H enc _ => wireErrs_lifted os started H enc)

/-- The statement. -/
theorem wireErrs_holds : Rows.WireErrsSaid := wireErrs_over
#print axioms wireErrs_holds
end Go.Proofs.Ytnohdbhkepdjbaa
