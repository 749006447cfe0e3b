/- PursePlays is true for every input, and its arguments read behind the call as before; no condition. -/
import Derived.Test.YtadejcpifabpoaaPur7
import Derived.Test.YtadejcpifabpoaaOps9
import Derived.Deep.RegionHeld3
namespace Go.Proofs.Ytadejcpifabpoaa
open Go.ChangeShapes Go.WideShapes Go.ChangeAt Go.RowKit
set_option linter.unusedVariables false

set_option maxRecDepth 100000 in
set_option maxHeartbeats 4000000 in
theorem walk_pursePlays (W : World) (ao : Option Addr) (bs : List ISl) (n cap : Nat) (hn : bs.length = n) (h : IntsList W ao bs) (hcap : n ≤ cap) (hcm : cap ≤ maxLen) (to_ : Option Addr) (rs : List POp) (r tcap : Nat) (hr : rs.length = r) (hops : POpsAt W to_ rs) (_h1 : r ≤ tcap) (_h2 : tcap ≤ maxLen) :
    Calls Try.prog 5 #[.slice ao n cap, .slice to_ r tcap] W fun e w' => e = .returned (.bool true) ∧ Below W.heap.size W w' := by
  have hb0 := Lib.hid (Below.refl W.heap.size W)
  have HI := Lib.hid h
  have HN := Lib.hid hn
  have HR := Lib.hid hr
  have HO := Lib.hid hops
  clear h hn hr hops _h1 _h2
  by_cases hf : fewB (bs.map (fun o => o.zs.length)) 100 1000 = true ∧ r ≤ 300
  · obtain ⟨hf, h300⟩ := hf
    have HF := Lib.hid hf
    have i300 : ¬ (300 : Int) < (r : Int) := by omega
    clear hf
    obtain ⟨m, hmm⟩ : ∃ m, m = (bs.getD 0 default).zs.length := ⟨_, rfl⟩
    have HXN := fun w1 h1 => Lib.hid (xnew_any ao bs n cap m w1 HN.out h1 hmm.symm)
    cases hm : mayF bs
    · have HM := Lib.hid hm
      clear hm hmm
      go_enter Try.func5, Try.ntmps5
      go_wp2_with fail
      refine (first9 W _ hb0.out).mono ?_
      rintro e w1 ⟨rfl, hb1⟩
      have HB1 := Lib.hid hb1
      clear hb1
      go_wp2_with fail
      refine (few9_any ao bs n cap w1 HN.out (HI.out.below HB1.out) hcap hcm).mono ?_
      rintro e w2 ⟨rfl, rfl⟩
      rw [HF.out]
      go_wp2_with fail
      refine (new_no ao bs n cap w1 HN.out (HI.out.below HB1.out) HM.out).mono ?_
      rintro e w2 ⟨rfl, hb2⟩
      have HB2 := Lib.hid (HB1.out.trans (hb2.mono HB1.out.size))
      have HXX := HXN w2 (HI.out.below HB2.out)
      clear hb2 HXN
      go_wp2_with fail
      refine HXX.out.mono ?_
      rintro e w3 hp
      have hp' : e = .returned (.tuple #[.pointer none, .int .i64 1]) ∧ Below w2.heap.size w2 w3 := by
        rcases hp with ⟨h, _⟩ | ⟨_, h1, h2⟩
        · rw [HM.out] at h; cases h
        · exact ⟨h1, h2⟩
      obtain ⟨rfl, hb3⟩ := hp'
      have HB3 := Lib.hid (HB2.out.trans (hb3.mono HB2.out.size))
      clear hp hb3 HXX
      go_wp2_with fail
      go_loop [9] (fun i => ∃ k : Nat, i = .int .i64 k) (fun _ => 0)
      case atStart => exact ⟨0, rfl⟩
      case round =>
        obtain ⟨k, rfl⟩ := hrel
        go_wp2_with fail
        refine (first9 W _ HB3.out).mono ?_
        rintro e w4 ⟨rfl, hb4⟩
        have HB4 := Lib.hid hb4
        clear hb4
        go_wp2
        go_ret
        exact ⟨rfl, HB4.out⟩
    · have HM := Lib.hid hm
      obtain ⟨hg, _⟩ := mayF_good hm
      rw [HN.out, ← hmm] at hg
      have HMM := Lib.hid hmm.symm
      have HNEW := fun w1 h1 => Lib.hid (new_yes ao bs n cap m w1 HN.out h1 HM.out HMM.out)
      obtain ⟨B, hB⟩ : ∃ B, B = balOf bs := ⟨_, rfl⟩
      rw [← hB] at hg
      have HG := Lib.hid hg
      have HBL := Lib.hid hB.symm
      clear hm hmm hg hB
      go_enter Try.func5, Try.ntmps5
      go_wp2_with fail
      refine (first9 W _ hb0.out).mono ?_
      rintro e w1 ⟨rfl, hb1⟩
      have HB1 := Lib.hid hb1
      have HNW := HNEW w1 (HI.out.below hb1)
      clear hb1 HNEW
      go_wp2_with fail
      refine (few9_any ao bs n cap w1 HN.out (HI.out.below HB1.out) hcap hcm).mono ?_
      rintro e w2 ⟨rfl, rfl⟩
      rw [HF.out]
      go_wp2_with fail
      refine HNW.out.mono ?_
      rintro e w2 ⟨q, rfl, hq⟩
      rw [HBL.out] at hq
      have HL := Lib.hid (LP.new hq HB1.out)
      have HXX := HXN w2 (HI.out.below HL.out.base)
      clear hq HNW HXN
      go_wp2_with fail
      refine HXX.out.mono ?_
      rintro e w3 hp
      have hp' : ∃ q', e = .returned (.tuple #[.pointer (some ⟨q', 0, none⟩), .int .i64 0]) ∧ PNew 89 w2 n m B q' w3 := by
        rcases hp with ⟨_, h⟩ | ⟨h, _, _⟩
        · rw [HBL.out] at h; exact h
        · rw [HM.out] at h; cases h
      clear hp
      obtain ⟨q', rfl, hq'⟩ := hp'
      have HL2 := Lib.hid (LP2.new HL.out hq')
      have hs3 : ∀ k, (fun k => W.heap.size ≤ k ∧ k < w2.heap.size) k ∨ (fun k => w2.heap.size ≤ k ∧ k < w3.heap.size) k → k < w3.heap.size := by
        intro k hk
        have := hq'.2.size
        have h1 := HL2.out.1.base.size
        rcases hk with hk | hk
        · have := hk.2; omega
        · exact hk.2
      have HS3 := Lib.hid hs3
      clear hs3 hq' HXX HL
      generalize (fun k => W.heap.size ≤ k ∧ k < w2.heap.size) = S at *
      generalize (fun k => w2.heap.size ≤ k ∧ k < w3.heap.size) = S' at *
      go_wp2_with fail
      go_loopw [9] (fun i wr => ∃ k : Nat, ∃ b, k ≤ r ∧ i = .int .i64 k ∧ LP2 W wr S q S' q' n m b b ∧ Good n m b ∧ w3.heap.size ≤ wr.heap.size) (fun i _ => r - (intOf i).toNat)
      case atStart => exact ⟨0, B, Nat.zero_le _, rfl, HL2.out, HG.out, Nat.le_refl _⟩
      case round =>
        obtain ⟨k, b, hk, rfl, hl, hgb, hsz⟩ := hrel
        have HLB := Lib.hid hl
        have HGB := Lib.hid hgb
        have HSZ := Lib.hid hsz
        clear hl hgb hsz
        by_cases hlt : k < r
        · have hkb : k < rs.length := by rw [HR.out]; exact hlt
          obtain ⟨ob, ooff, rfl, hat⟩ := pop_cell HO.out k hkb
          obtain ⟨c0, c1, c2, c3, c4⟩ := hat wr HLB.out.base
          generalize rs[k] = o at *
          clear hat
          have j0 : (0 : Int) ≤ (k : Int) := by omega
          have j1 : (k : Int) < (r : Int) := by omega
          have HOC : Hid (∀ w', Keeps (fun k => S k ∨ S' k) (wr.alloc (.cells #[.int .i64 o.k, .int .i64 o.a, .int .i64 o.b, .int .i64 o.s, .int .i64 o.x] 35)).drew w' → o.at_ w' wr.heap.size 0) := Lib.hid (by
            intro w' hk'
            have hblk := (hk'.block wr.heap.size (by simp) (fun h => by have := HS3.out _ h; have := HSZ.out; omega)).trans (show _ = some _ from heap_alloc_new wr _)
            refine ⟨?_, ?_, ?_, ?_, ?_⟩
            all_goals
              rw [blk_cell hblk]; rfl)
          have HLO := Lib.hid (HLB.out.below ((Below.refl _ _).alloc (Nat.le_refl _) (.cells #[.int .i64 o.k, .int .i64 o.a, .int .i64 o.b, .int .i64 o.s, .int .i64 o.x] 35)))
          have HSO : Hid (w3.heap.size ≤ (wr.alloc (.cells #[.int .i64 o.k, .int .i64 o.a, .int .i64 o.b, .int .i64 o.s, .int .i64 o.x] 35)).drew.heap.size) := Lib.hid (by have := HSZ.out; simp; omega)
          by_cases hk0 : o.k = 0
          · have q0 : (o.k == 0) = true := by simp [hk0]
            clear hk0
            go_wp2_with fail
            generalize wr.alloc (.cells #[.int .i64 o.k, .int .i64 o.a, .int .i64 o.b, .int .i64 o.s, .int .i64 o.x] 35) = wO at *
            have HCD : Hid (∀ w', Keeps (fun k => S k ∨ S' k) wO.drew w' → (w'.cell? ⟨wr.heap.size, 1, none⟩ = some (.int .i64 o.a) ∧ w'.cell? ⟨wr.heap.size, 3, none⟩ = some (.int .i64 o.s) ∧ w'.cell? ⟨wr.heap.size, 4, none⟩ = some (.int .i64 o.x))) := Lib.hid (fun w' hk => by have h := HOC.out w' hk; exact ⟨h.2.1, h.2.2.2.1, h.2.2.2.2⟩)
            obtain ⟨_, y1, y2, y3, y4⟩ := HOC.out wO.drew (Keeps.refl _ _)
            go_region_held3 (fun w' => w'.cell? ⟨wr.heap.size, 1, none⟩ = some (.int .i64 o.a) ∧ w'.cell? ⟨wr.heap.size, 3, none⟩ = some (.int .i64 o.s) ∧ w'.cell? ⟨wr.heap.size, 4, none⟩ = some (.int .i64 o.x))
              (first | go_keep | exact HCD.out _ hk5 | exact HCD.out _ (hk5.trans hk6 (fun _ h => Or.inl h)))
              ((first
                | (go_at_call 25; refine (HLO.out.drew.give HGB.out o.a o.s o.x).mono ?_; rintro e w5 ⟨rfl, hl5, hk5⟩)
                | (go_at_call 26; refine (hl5.xgive HGB.out o.a o.s o.x).mono ?_; rintro e w6 ⟨rfl, hl6, hk6⟩)))
            have HK6 := Lib.hid (hk5.trans hk6 (fun _ h => Or.inl h))
            have HL6 := Lib.hid hl6
            clear y1 y2 y3 y4 hk5 hk6 hl5 hl6
            have HLZ := Lib.hid HL6.out
            obtain ⟨_, z1, z2, z3, _⟩ := HOC.out w6 HK6.out
            go_wp2_with fail
            go_region_held3 (fun w' => w'.cell? ⟨wr.heap.size, 1, none⟩ = some (.int .i64 o.a) ∧ w'.cell? ⟨wr.heap.size, 2, none⟩ = some (.int .i64 o.b) ∧ w'.cell? ⟨wr.heap.size, 3, none⟩ = some (.int .i64 o.s)) (go_keep)
              ((first
                | (go_at_call 20; refine (HLZ.out.drew.1.has _ _).mono ?_; rintro e w7 ⟨rfl, rfl⟩)
                | (go_at_call 30; refine (HLZ.out.drew.2.1.xhas _ _).mono ?_; rintro e w7 ⟨rfl, rfl⟩)
                | (go_at_call 21; refine (HLZ.out.drew.1.total (HGB.out.give o.a o.s o.x) _).mono ?_; rintro e w7 ⟨rfl, rfl⟩)
                | (go_at_call 31; refine (HLZ.out.drew.2.1.xtotal (HGB.out.give o.a o.s o.x) _).mono ?_; rintro e w7 ⟨rfl, rfl⟩)))
            go_wp2
            go_roundw
            case rel => exact ⟨k + 1, _, by omega, by go_num, HLZ.out.drew, (HGB.out.give o.a o.s o.x), Nat.le_trans HSO.out HK6.out.size⟩
            case measure => simp [intOf]; omega
          by_cases hk1 : o.k = 1
          · have q0 : (o.k == 0) = false := by simp [hk0]
            have q1 : (o.k == 1) = true := by simp [hk1]
            clear hk0 hk1
            go_wp2_with fail
            generalize wr.alloc (.cells #[.int .i64 o.k, .int .i64 o.a, .int .i64 o.b, .int .i64 o.s, .int .i64 o.x] 35) = wO at *
            have HCD : Hid (∀ w', Keeps (fun k => S k ∨ S' k) wO.drew w' → (w'.cell? ⟨wr.heap.size, 1, none⟩ = some (.int .i64 o.a) ∧ w'.cell? ⟨wr.heap.size, 3, none⟩ = some (.int .i64 o.s) ∧ w'.cell? ⟨wr.heap.size, 4, none⟩ = some (.int .i64 o.x))) := Lib.hid (fun w' hk => by have h := HOC.out w' hk; exact ⟨h.2.1, h.2.2.2.1, h.2.2.2.2⟩)
            obtain ⟨_, y1, y2, y3, y4⟩ := HOC.out wO.drew (Keeps.refl _ _)
            go_region_held3 (fun w' => w'.cell? ⟨wr.heap.size, 1, none⟩ = some (.int .i64 o.a) ∧ w'.cell? ⟨wr.heap.size, 3, none⟩ = some (.int .i64 o.s) ∧ w'.cell? ⟨wr.heap.size, 4, none⟩ = some (.int .i64 o.x))
              (first | go_keep | exact HCD.out _ hk5 | exact HCD.out _ (hk5.trans hk6 (fun _ h => Or.inl h)))
              ((first
                | (go_at_call 27; refine (HLO.out.drew.take HGB.out o.a o.s o.x).mono ?_; rintro e w5 ⟨rfl, hl5, hk5⟩)
                | (go_at_call 28; refine (hl5.xtake HGB.out o.a o.s o.x).mono ?_; rintro e w6 ⟨rfl, hl6, hk6⟩)))
            have HK6 := Lib.hid (hk5.trans hk6 (fun _ h => Or.inl h))
            have HL6 := Lib.hid hl6
            clear y1 y2 y3 y4 hk5 hk6 hl5 hl6
            have HLZ := Lib.hid HL6.out
            obtain ⟨_, z1, z2, z3, _⟩ := HOC.out w6 HK6.out
            go_wp2_with fail
            go_region_held3 (fun w' => w'.cell? ⟨wr.heap.size, 1, none⟩ = some (.int .i64 o.a) ∧ w'.cell? ⟨wr.heap.size, 2, none⟩ = some (.int .i64 o.b) ∧ w'.cell? ⟨wr.heap.size, 3, none⟩ = some (.int .i64 o.s)) (go_keep)
              ((first
                | (go_at_call 20; refine (HLZ.out.drew.1.has _ _).mono ?_; rintro e w7 ⟨rfl, rfl⟩)
                | (go_at_call 30; refine (HLZ.out.drew.2.1.xhas _ _).mono ?_; rintro e w7 ⟨rfl, rfl⟩)
                | (go_at_call 21; refine (HLZ.out.drew.1.total (HGB.out.take o.a o.s o.x) _).mono ?_; rintro e w7 ⟨rfl, rfl⟩)
                | (go_at_call 31; refine (HLZ.out.drew.2.1.xtotal (HGB.out.take o.a o.s o.x) _).mono ?_; rintro e w7 ⟨rfl, rfl⟩)))
            go_wp2
            go_roundw
            case rel => exact ⟨k + 1, _, by omega, by go_num, HLZ.out.drew, (HGB.out.take o.a o.s o.x), Nat.le_trans HSO.out HK6.out.size⟩
            case measure => simp [intOf]; omega
          by_cases hk2 : o.k = 2
          · have q0 : (o.k == 0) = false := by simp [hk0]
            have q1 : (o.k == 1) = false := by simp [hk1]
            have q2 : (o.k == 2) = true := by simp [hk2]
            clear hk0 hk1 hk2
            go_wp2_with fail
            generalize wr.alloc (.cells #[.int .i64 o.k, .int .i64 o.a, .int .i64 o.b, .int .i64 o.s, .int .i64 o.x] 35) = wO at *
            have HCD : Hid (∀ w', Keeps (fun k => S k ∨ S' k) wO.drew w' → (w'.cell? ⟨wr.heap.size, 1, none⟩ = some (.int .i64 o.a) ∧ w'.cell? ⟨wr.heap.size, 2, none⟩ = some (.int .i64 o.b) ∧ w'.cell? ⟨wr.heap.size, 3, none⟩ = some (.int .i64 o.s) ∧ w'.cell? ⟨wr.heap.size, 4, none⟩ = some (.int .i64 o.x))) := Lib.hid (fun w' hk => by have h := HOC.out w' hk; exact ⟨h.2.1, h.2.2.1, h.2.2.2.1, h.2.2.2.2⟩)
            obtain ⟨_, y1, y2, y3, y4⟩ := HOC.out wO.drew (Keeps.refl _ _)
            go_region_held3 (fun w' => w'.cell? ⟨wr.heap.size, 1, none⟩ = some (.int .i64 o.a) ∧ w'.cell? ⟨wr.heap.size, 2, none⟩ = some (.int .i64 o.b) ∧ w'.cell? ⟨wr.heap.size, 3, none⟩ = some (.int .i64 o.s) ∧ w'.cell? ⟨wr.heap.size, 4, none⟩ = some (.int .i64 o.x))
              (first | go_keep | exact HCD.out _ hk5 | exact HCD.out _ (hk5.trans hk6 (fun _ h => Or.inl h)))
              ((first
                | (go_at_call 19; refine (HLO.out.drew.move HGB.out o.a o.b o.s o.x).mono ?_; rintro e w5 ⟨rfl, hl5, hk5⟩)
                | (go_at_call 29; refine (hl5.xmove HGB.out o.a o.b o.s o.x).mono ?_; rintro e w6 ⟨rfl, hl6, hk6⟩)))
            have HK6 := Lib.hid (hk5.trans hk6 (fun _ h => Or.inl h))
            have HL6 := Lib.hid hl6
            clear y1 y2 y3 y4 hk5 hk6 hl5 hl6
            have HLZ := Lib.hid HL6.out
            obtain ⟨_, z1, z2, z3, _⟩ := HOC.out w6 HK6.out
            go_wp2_with fail
            go_region_held3 (fun w' => w'.cell? ⟨wr.heap.size, 1, none⟩ = some (.int .i64 o.a) ∧ w'.cell? ⟨wr.heap.size, 2, none⟩ = some (.int .i64 o.b) ∧ w'.cell? ⟨wr.heap.size, 3, none⟩ = some (.int .i64 o.s)) (go_keep)
              ((first
                | (go_at_call 20; refine (HLZ.out.drew.1.has _ _).mono ?_; rintro e w7 ⟨rfl, rfl⟩)
                | (go_at_call 30; refine (HLZ.out.drew.2.1.xhas _ _).mono ?_; rintro e w7 ⟨rfl, rfl⟩)
                | (go_at_call 21; refine (HLZ.out.drew.1.total (HGB.out.move o.a o.b o.s o.x) _).mono ?_; rintro e w7 ⟨rfl, rfl⟩)
                | (go_at_call 31; refine (HLZ.out.drew.2.1.xtotal (HGB.out.move o.a o.b o.s o.x) _).mono ?_; rintro e w7 ⟨rfl, rfl⟩)))
            go_wp2
            go_roundw
            case rel => exact ⟨k + 1, _, by omega, by go_num, HLZ.out.drew, (HGB.out.move o.a o.b o.s o.x), Nat.le_trans HSO.out HK6.out.size⟩
            case measure => simp [intOf]; omega
          have q0 : (o.k == 0) = false := by simp [hk0]
          have q1 : (o.k == 1) = false := by simp [hk1]
          have q2 : (o.k == 2) = false := by simp [hk2]
          clear hk0 hk1 hk2
          go_wp2_with fail
          generalize wr.alloc (.cells #[.int .i64 o.k, .int .i64 o.a, .int .i64 o.b, .int .i64 o.s, .int .i64 o.x] 35) = wO at *
          have HLZ := Lib.hid HLO.out
          obtain ⟨_, z1, z2, z3, _⟩ := HOC.out wO.drew (Keeps.refl _ _)
          go_wp2_with fail
          go_region_held3 (fun w' => w'.cell? ⟨wr.heap.size, 1, none⟩ = some (.int .i64 o.a) ∧ w'.cell? ⟨wr.heap.size, 2, none⟩ = some (.int .i64 o.b) ∧ w'.cell? ⟨wr.heap.size, 3, none⟩ = some (.int .i64 o.s)) (go_keep)
            ((first
              | (go_at_call 20; refine (HLZ.out.drew.1.has _ _).mono ?_; rintro e w7 ⟨rfl, rfl⟩)
              | (go_at_call 30; refine (HLZ.out.drew.2.1.xhas _ _).mono ?_; rintro e w7 ⟨rfl, rfl⟩)
              | (go_at_call 21; refine (HLZ.out.drew.1.total HGB.out _).mono ?_; rintro e w7 ⟨rfl, rfl⟩)
              | (go_at_call 31; refine (HLZ.out.drew.2.1.xtotal HGB.out _).mono ?_; rintro e w7 ⟨rfl, rfl⟩)))
          go_wp2
          go_roundw
          case rel => exact ⟨k + 1, _, by omega, by go_num, HLZ.out.drew, HGB.out, HSO.out⟩
          case measure => simp [intOf]; omega
        · obtain rfl : k = r := by omega
          clear hlt
          go_wp2_with fail
          refine (first9 W _ HLB.out.base).mono ?_
          rintro e w4 ⟨rfl, hb4⟩
          have HB4 := Lib.hid hb4
          clear hb4
          go_wp2
          go_ret
          exact ⟨rfl, HB4.out⟩
  · have hc : fewB (bs.map (fun o => o.zs.length)) 100 1000 = false ∨ (fewB (bs.map (fun o => o.zs.length)) 100 1000 = true ∧ (300 : Int) < (r : Int)) := by
      cases h : fewB (bs.map (fun o => o.zs.length)) 100 1000
      · exact Or.inl rfl
      · exact Or.inr ⟨rfl, by (have : ¬ r ≤ 300 := fun h' => hf ⟨h, h'⟩); omega⟩
    clear hf
    rcases hc with hf | ⟨hf, i300⟩
    all_goals
      have HF := Lib.hid hf
      clear hf
      go_enter Try.func5, Try.ntmps5
      go_wp2_with fail
      refine (first9 W _ hb0.out).mono ?_
      rintro e w1 ⟨rfl, hb1⟩
      have HB1 := Lib.hid hb1
      clear hb1
      go_wp2_with fail
      refine (few9_any ao bs n cap w1 HN.out (HI.out.below HB1.out) hcap hcm).mono ?_
      rintro e w2 ⟨rfl, rfl⟩
      rw [HF.out]
      go_wp2_with fail
      refine (first9 W _ HB1.out).mono ?_
      rintro e w2 ⟨rfl, hb2⟩
      have HB2 := Lib.hid hb2
      clear hb2
      go_wp2
      go_ret
      exact ⟨rfl, HB2.out⟩

end Go.Proofs.Ytadejcpifabpoaa
