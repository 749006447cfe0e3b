/- PurseTotals is true for every input, and its arguments read behind the call as before; no condition. -/
import Derived.Test.YtadejcpifabpoaaPur7
import Derived.Test.YtadejcpifabpoaaOps9
import Derived.Deep.RegionHeld3
namespace Go.Proofs.Ytadejcpifabpoaa
open Go.ChangeShapes Go.WideShapes Go.ChangeAt Go.RowKit
set_option linter.unusedVariables false

/-- A purse and its copy. -/
def LPC (W w : World) (S : Nat → Prop) (q : Nat) (S' : Nat → Prop) (q' n m : Nat) (b b' : Nat → Nat → Int) : Prop := LP 75 W w S q n m b ∧ LP 75 W w S' q' n m b' ∧ ∀ k, S k → ¬ S' k
section
variable {W w w' : World} {S S' : Nat → Prop} {q q' n m : Nat} {b b' : Nat → Nat → Int}
theorem LPC.base (h : LPC W w S q S' q' n m b b') : Below W.heap.size W w := h.1.base
theorem LPC.below (h : LPC W w S q S' q' n m b b') (hb : Below w.heap.size w w') : LPC W w' S q S' q' n m b b' := ⟨h.1.below hb, h.2.1.below hb, h.2.2⟩
theorem LPC.drew (h : LPC W w S q S' q' n m b b') : LPC W w.drew S q S' q' n m b b' := ⟨h.1.drew, h.2.1.drew, h.2.2⟩
theorem LPC.new {wm : World} (h1 : LP 75 W wm S q n m b) (h2 : PNew 75 wm n m b' q' w') : ∃ S', LPC W w' S q S' q' n m b b' := by
  refine ⟨_, h1.below h2.2, ⟨h2.1, h1.base.trans (h2.2.mono h1.base.size), fun k hk => by have := h1.base.size; omega⟩, fun k hk hk' => ?_⟩
  obtain ⟨L, lcap, G, C, _, _, h3⟩ := h1.1
  have := h3 k hk
  omega
theorem LPC.move (h : LPC W w S q S' q' n m b b') (hg : Good n m b) (f t j x : Int) : Calls Try.prog 19 #[.pointer (some ⟨q, 0, none⟩), .int .i64 f, .int .i64 t, .int .i64 j, .int .i64 x] w fun e w' => e = .returned (.int .i64 (moveE n m b f t j x)) ∧ LPC W w' S q S' q' n m (moveN n m b f t j x) b' :=
  (pur_move q n m S b w h.1.1 hg f t j x).mono fun _ _ ⟨a, b⟩ => ⟨a, h.1.post b, ⟨h.2.1.1.keep b.2 (fun k hk hk' => h.2.2 k hk' hk), (h.1.post b).base, h.2.1.2.2⟩, h.2.2⟩
theorem LP.copy (h : LP 75 W w S q n m b) (hg : Good n m b) : Calls Try.prog 18 #[.pointer (some ⟨q, 0, none⟩)] w fun e w' => ∃ q2, e = .returned (.pointer (some ⟨q2, 0, none⟩)) ∧ PNew 75 w n m b q2 w' := by
  obtain ⟨L, lcap, G, C, hl, _, _⟩ := h.1
  have h2 := hg.n2
  have h16 := hg.n16
  have h1 := hg.m1
  have h4 := hg.m4
  have hi : IntsList w (some ⟨L, 0, none⟩) ((List.range n).map fun i => (⟨some ⟨G i, 0, none⟩, (List.range m).map (b i), C i⟩ : ISl)) := by
    refine ⟨Or.inr ⟨L, 0, rfl, fun i hi => ?_⟩, fun x hx => ?_⟩
    · simp at hi
      rw [Nat.zero_add, hl.cell1 hi]
      simp [ISl.val]
    · simp only [List.mem_map, List.mem_range] at hx
      obtain ⟨i, hi, rfl⟩ := hx
      refine ⟨Or.inr ⟨G i, 0, rfl, fun j hj => ?_⟩, fun z hz => ?_, by simpa using (hl.cap.2.2 i hi).1, (hl.cap.2.2 i hi).2⟩
      · simp at hj
        rw [Nat.zero_add, (hl.cell2 hi hj).1]
        simp [List.getD, hj]
      · simp only [List.mem_map, List.mem_range] at hz
        obtain ⟨j, hj, rfl⟩ := hz
        have := hg.cell hi hj
        omega
  refine (copy_any q (some ⟨L, 0, none⟩) _ n lcap m w hl.cell0 hi (by simp) (fun i hi => by simp) (by omega) (by omega) (by omega) (by omega)).mono fun e w' ⟨q2, h1, h2, h3⟩ => ⟨q2, h1, h2.congr (fun i hi j hj => ?_), h3⟩
  simp [balOf, List.getD, hi, hj]
end

set_option maxRecDepth 100000 in
set_option maxHeartbeats 4000000 in
theorem walk_purseTotals (W : World) (ao : Option Addr) (bs : List ISl) (n cap : Nat) (hn : bs.length = n) (h : IntsList W ao bs) (hcap : n ≤ cap) (hcm : cap ≤ maxLen) (to_ : Option Addr) (rs : List POp) (r tcap : Nat) (hr : rs.length = r) (hops : POpsAt W to_ rs) (_h1 : r ≤ tcap) (_h2 : tcap ≤ maxLen) :
    Calls Try.prog 3 #[.slice ao n cap, .slice to_ r tcap] W fun e w' => e = .returned (.bool true) ∧ Below W.heap.size W w' := by
  have hb0 := Lib.hid (Below.refl W.heap.size W)
  have HI := Lib.hid h
  have HN := Lib.hid hn
  have HR := Lib.hid hr
  have HO := Lib.hid hops
  clear h hn hr hops _h1 _h2
  by_cases hf : fewB (bs.map (fun o => o.zs.length)) 100 1000 = true ∧ r ≤ 300
  · obtain ⟨hf, h300⟩ := hf
    have HF := Lib.hid hf
    have i300 : ¬ (300 : Int) < (r : Int) := by omega
    clear hf
    cases hm : mayF bs
    · have HM := Lib.hid hm
      clear hm
      go_enter Try.func3, Try.ntmps3
      go_wp2_with fail
      refine (first9 W _ hb0.out).mono ?_
      rintro e w1 ⟨rfl, hb1⟩
      have HB1 := Lib.hid hb1
      clear hb1
      go_wp2_with fail
      refine (few9_any ao bs n cap w1 HN.out (HI.out.below HB1.out) hcap hcm).mono ?_
      rintro e w2 ⟨rfl, rfl⟩
      rw [HF.out]
      go_wp2_with fail
      refine (new_no ao bs n cap w1 HN.out (HI.out.below HB1.out) HM.out).mono ?_
      rintro e w2 ⟨rfl, hb2⟩
      have HB2 := Lib.hid (HB1.out.trans (hb2.mono HB1.out.size))
      have HQ := Lib.hid (fun k => HB2.out.trans (Keeps.below ((Keeps.refl (fun _ => False) w2).drewN k) (B := W.heap.size) HB2.out.size (fun _ f => f.elim)))
      clear hb2
      go_wp2_with fail
      go_quiet (fail)
      go_wp2_with fail
      refine (first9 W _ (HQ.out _)).mono ?_
      rintro e w3 ⟨rfl, hb3⟩
      have HB3 := Lib.hid hb3
      clear hb3
      go_wp2
      go_ret
      exact ⟨rfl, HB3.out⟩
    · have HM := Lib.hid hm
      obtain ⟨hg, hlen⟩ := mayF_good hm
      obtain ⟨m, hmm⟩ : ∃ m, m = (bs.getD 0 default).zs.length := ⟨_, rfl⟩
      rw [HN.out, ← hmm] at hg
      rw [← hmm] at hlen
      have HLEN := Lib.hid hlen
      have HMM := Lib.hid hmm.symm
      have HNEW := fun w1 h1 => Lib.hid (new_yes ao bs n cap m w1 HN.out h1 HM.out HMM.out)
      obtain ⟨B, hB⟩ : ∃ B, B = balOf bs := ⟨_, rfl⟩
      rw [← hB] at hg
      have HG := Lib.hid hg
      have HBL := Lib.hid hB.symm
      have h0b : 0 < bs.length := by have := hg.n2; have := HN.out; omega
      obtain ⟨sb, soff, rfl, hc0⟩ := il_cell HI.out 0 h0b
      have hsbl := World.block_lt_of_cell? W _ hc0
      rw [Nat.add_zero] at hc0
      rw [hlen 0 h0b] at hc0
      have HC0 : Hid (∀ w', Below W.heap.size W w' → w'.cell? ⟨sb, soff, none⟩ = some (.slice bs[0].ao m bs[0].cap)) := Lib.hid (fun w' hb => (hb.cell (p := ⟨sb, soff, none⟩) hsbl).trans hc0)
      generalize bs[0] = x0 at *
      have hn2 := hg.n2
      have hn16 := hg.n16
      have hm1 := hg.m1
      have hm4 := hg.m4
      have inn : (n == 0) = false := by simp; omega
      have inn2 : ((n : Int) == 0) = false := by simp; omega
      have inp : (0 : Int) < (n : Int) := by omega
      have inp2 : 0 < n := by omega
      clear hm hmm hg hB hc0 hlen
      go_enter Try.func3, Try.ntmps3
      go_wp2_with fail
      refine (first9 W _ hb0.out).mono ?_
      rintro e w1 ⟨rfl, hb1⟩
      have HB1 := Lib.hid hb1
      have HNW := HNEW w1 (HI.out.below hb1)
      clear hb1 HNEW
      go_wp2_with fail
      refine (few9_any (some ⟨sb, soff, none⟩) bs n cap w1 HN.out (HI.out.below HB1.out) hcap hcm).mono ?_
      rintro e w2 ⟨rfl, rfl⟩
      rw [HF.out]
      go_wp2_with fail
      refine HNW.out.mono ?_
      rintro e w2 ⟨q, rfl, hq⟩
      rw [HBL.out] at hq
      have HL := Lib.hid (LP.new hq HB1.out)
      have c0 := HC0.out w2 HL.out.base
      clear hq HNW
      go_wp2_with fail
      go_region_held3 (fun w' => w'.cell? ⟨sb, soff, none⟩ = some (.slice x0.ao m x0.cap)) (go_keep)
        ((first
          | (go_at_call 16; refine (pur_parties q n m _ B _ HL.out.drew.1).mono ?_; rintro e w7 ⟨rfl, rfl⟩)
          | (go_at_call 17; refine (pur_assets q n m _ B _ HL.out.drew.1).mono ?_; rintro e w7 ⟨rfl, rfl⟩)))
      have HLD := Lib.hid HL.out.drew
      clear inn inn2 c0
      generalize w2.drew = w2d at *
      go_wp2_with fail
      refine (HLD.out.copy HG.out).mono ?_
      rintro e w3 ⟨q2, rfl, hq2⟩
      obtain ⟨S', hlc⟩ := LPC.new HLD.out hq2
      have HLC0 := Lib.hid hlc
      clear hq2 hlc HLD HL
      generalize (fun k => W.heap.size ≤ k ∧ k < w2.heap.size) = S at *
      go_wp2_with fail
      go_loopw [8] (fun i wr => ∃ k : Nat, ∃ b, k ≤ r ∧ i = .int .i64 k ∧ LPC W wr S q S' q2 n m b B ∧ Good n m b ∧ (∀ j, tot b j n = tot B j n)) (fun i _ => r - (intOf i).toNat)
      case atStart => exact ⟨0, B, Nat.zero_le _, rfl, HLC0.out, HG.out, fun j => rfl⟩
      case round =>
        obtain ⟨k, b, hk, rfl, hl, hgb, htot⟩ := hrel
        have HLB := Lib.hid hl
        have HGB := Lib.hid hgb
        have HTOT := Lib.hid htot
        clear hl hgb htot
        by_cases hlt : k < r
        · have hkb : k < rs.length := by rw [HR.out]; exact hlt
          obtain ⟨ob, ooff, rfl, hat⟩ := pop_cell HO.out k hkb
          obtain ⟨c0, c1, c2, c3, c4⟩ := hat wr HLB.out.base
          generalize rs[k] = o at *
          have HATC : Hid (∀ w', Below W.heap.size W w' → (w'.cell? ⟨ob, ooff + k * 5 + 1, none⟩ = some (.int .i64 o.a) ∧ w'.cell? ⟨ob, ooff + k * 5 + 2, none⟩ = some (.int .i64 o.b) ∧ w'.cell? ⟨ob, ooff + k * 5 + 3, none⟩ = some (.int .i64 o.s) ∧ w'.cell? ⟨ob, ooff + k * 5 + 4, none⟩ = some (.int .i64 o.x))) := Lib.hid (fun w' hb => (hat w' hb).2)
          have HTM := Lib.hid (fun j => (tot_move (n := n) (m := m) (b := b) (f := o.a) (t := o.b) (j := o.s) (x := o.x) j).trans (HTOT.out j))
          clear hat
          have j0 : (0 : Int) ≤ (k : Int) := by omega
          have j1 : (k : Int) < (r : Int) := by omega
          go_wp2_with fail
          go_region_held3 (fun w' => w'.cell? ⟨ob, ooff + k * 5 + 1, none⟩ = some (.int .i64 o.a) ∧ w'.cell? ⟨ob, ooff + k * 5 + 2, none⟩ = some (.int .i64 o.b) ∧ w'.cell? ⟨ob, ooff + k * 5 + 3, none⟩ = some (.int .i64 o.s) ∧ w'.cell? ⟨ob, ooff + k * 5 + 4, none⟩ = some (.int .i64 o.x)) (first | go_keep | exact HATC.out _ hl5.base)
            ((go_at_call 19; refine (HLB.out.drew.move HGB.out _ _ _ _).mono ?_; rintro e w5 ⟨rfl, hl5⟩))
          have HL5 := Lib.hid hl5
          clear hl5
          go_wp2
          go_roundw
          case rel => exact ⟨k + 1, _, by omega, by go_num, HL5.out, HGB.out.move _ _ _ _, HTM.out⟩
          case measure => simp [intOf]; omega
        · obtain rfl : k = r := by omega
          clear hlt
          go_wp2_with fail
          obtain ⟨wB, rfl⟩ : ∃ wB : World, wB = wr := ⟨_, rfl⟩
          go_loopw [9] (fun i wr => ∃ a : Nat, a ≤ m ∧ i = .int .i64 a ∧ LPC W wr S q S' q2 n m b B) (fun i _ => m - (intOf i).toNat)
          case atStart => exact ⟨0, Nat.zero_le _, rfl, HLB.out⟩
          case round =>
            obtain ⟨a, ha, rfl, hl⟩ := hrel
            have HLA := Lib.hid hl
            have c0 := HC0.out wr hl.base
            clear hl
            by_cases hal : a < m
            · have HTA := Lib.hid (show totB n m b a = tot b a n by simp [totB, partB, hal])
              have HTB := Lib.hid (show totB n m B a = tot b a n by rw [HTOT.out a]; simp [totB, partB, hal])
              have HPN := Lib.hid (show partB m b a n = tot b a n by simp [partB, hal])
              obtain ⟨wo, rfl⟩ : ∃ wo : World, wo = wr := ⟨_, rfl⟩
              go_wp2_with fail
              go_loopw [10, 11] (fun v i wr => ∃ p : Nat, p ≤ n ∧ i = .int .i64 p ∧ v = .int .i64 (partB m b a p) ∧ LPC W wr S q S' q2 n m b B) (fun _ i _ => n - (intOf i).toNat)
              case atStart => exact ⟨0, Nat.zero_le _, rfl, by simp [partB, tot], HLA.out⟩
              case round =>
                obtain ⟨p, hp, rfl, rfl, hl⟩ := hrel
                have HLP := Lib.hid hl
                by_cases hpl : p < n
                · have hpb : p < bs.length := by rw [HN.out]; exact hpl
                  obtain ⟨b', off', he, hcell⟩ := il_cell (HI.out.below hl.base) p hpb
                  simp only [Option.some.injEq, Addr.mk.injEq, and_true] at he
                  obtain ⟨rfl, rfl⟩ := he
                  have hin := (il_ok (HI.out.below hl.base) p hpb).1
                  have hxl := HLEN.out p hpb
                  have hBp : bs[p].zs.getD a 0 = B p a := by rw [← HBL.out]; simp [balOf, List.getD, hpb]
                  rw [hxl] at hcell
                  generalize bs[p] = x at *
                  obtain ⟨xb, xoff, hxa, hxc⟩ : ∃ xb xoff, x.ao = some ⟨xb, xoff, none⟩ ∧ wr.cell? ⟨xb, xoff + a, none⟩ = some (.int .i64 (B p a)) := by
                    rcases hin with h | ⟨xb, xoff, h1, h2⟩
                    · rw [h] at hxl; simp at hxl; omega
                    · exact ⟨xb, xoff, h1, by rw [h2 a (by omega), hBp]⟩
                  rw [hxa] at hcell
                  have hpos := (HGB.out.cell hpl hal).1
                  have HG1 := Lib.hid (show getB n m b p a = b p a by simp [getB, hasB, hpl, hal])
                  have HG2 := Lib.hid (show getB n m B p a = B p a by simp [getB, hasB, hpl, hal])
                  have HS := Lib.hid (part_succ (m := m) (b := b) (a : Int) hpl)
                  obtain ⟨p1, p2⟩ := HGB.out.part (a : Int) (k := p + 1) (by omega)
                  obtain ⟨p3, p4⟩ := HGB.out.part (a : Int) (k := p) (by omega)
                  rw [HS.out, HG1.out] at p1 p2
                  have j0 : (0 : Int) ≤ (p : Int) := by omega
                  have j1 : (p : Int) < (n : Int) := by omega
                  have j2 : (0 : Int) ≤ (a : Int) := by omega
                  have j3 : (a : Int) < (m : Int) := by omega
                  generalize b p a = u at *
                  generalize B p a = z at *
                  have jn : ¬ u < 0 := by omega
                  have jd : decide (u < 0) = false := by simp; omega
                  clear hin hxl hxa hBp hl
                  go_wp2_with fail
                  go_region_held3 (fun w' => w'.cell? ⟨sb, soff + p, none⟩ = some (.slice (some ⟨xb, xoff, none⟩) m x.cap) ∧ w'.cell? ⟨xb, xoff + a, none⟩ = some (.int .i64 z)) (go_keep)
                    ((first
                      | (go_at_call_of 20 (Value.pointer (some ⟨q, 0, none⟩)); refine (HLP.out.drew.1.has _ _).mono ?_; rintro e w7 ⟨rfl, rfl⟩; rw [HG1.out])
                      | (go_at_call 20; refine (HLP.out.drew.2.1.has _ _).mono ?_; rintro e w7 ⟨rfl, rfl⟩; rw [HG2.out])))
                  have HLQ := Lib.hid HLP.out.drew
                  go_wp2_with fail
                  refine (HLQ.out.1.has _ _).mono ?_
                  rintro e w7 ⟨rfl, rfl⟩
                  rw [HG1.out]
                  go_wp2
                  go_roundw
                  case rel => exact ⟨p + 1, by omega, by go_num, by rw [HS.out, HG1.out], HLQ.out⟩
                  case measure => simp [intOf]; omega
                · obtain rfl : p = n := by omega
                  rw [HPN.out]
                  clear hl hpl
                  generalize tot b a p = tt at *
                  go_wp2_with fail
                  refine (HLP.out.1.total HGB.out _).mono ?_
                  rintro e w7 ⟨rfl, rfl⟩
                  rw [HTA.out]
                  go_wp2_with fail
                  refine (HLP.out.2.1.total HG.out _).mono ?_
                  rintro e w7 ⟨rfl, rfl⟩
                  rw [HTB.out]
                  go_wp2
                  go_roundw
                  case rel => exact ⟨a + 1, by omega, by go_num, HLP.out⟩
                  case measure => simp [intOf]; omega
            · obtain rfl : a = m := by omega
              clear hal
              go_wp2_with fail
              refine (first9 W _ HLA.out.base).mono ?_
              rintro e w4 ⟨rfl, hb4⟩
              have HB4 := Lib.hid hb4
              clear hb4
              go_wp2
              go_ret
              exact ⟨rfl, HB4.out⟩
  · have hc : fewB (bs.map (fun o => o.zs.length)) 100 1000 = false ∨ (fewB (bs.map (fun o => o.zs.length)) 100 1000 = true ∧ (300 : Int) < (r : Int)) := by
      cases h : fewB (bs.map (fun o => o.zs.length)) 100 1000
      · exact Or.inl rfl
      · exact Or.inr ⟨rfl, by (have : ¬ r ≤ 300 := fun h' => hf ⟨h, h'⟩); omega⟩
    clear hf
    rcases hc with hf | ⟨hf, i300⟩
    all_goals
      have HF := Lib.hid hf
      clear hf
      go_enter Try.func3, Try.ntmps3
      go_wp2_with fail
      refine (first9 W _ hb0.out).mono ?_
      rintro e w1 ⟨rfl, hb1⟩
      have HB1 := Lib.hid hb1
      clear hb1
      go_wp2_with fail
      refine (few9_any ao bs n cap w1 HN.out (HI.out.below HB1.out) hcap hcm).mono ?_
      rintro e w2 ⟨rfl, rfl⟩
      rw [HF.out]
      go_wp2_with fail
      refine (first9 W _ HB1.out).mono ?_
      rintro e w2 ⟨rfl, hb2⟩
      have HB2 := Lib.hid hb2
      clear hb2
      go_wp2
      go_ret
      exact ⟨rfl, HB2.out⟩

/-! ### The row's step for PurseTotals: the frame. -/
theorem purseTotals_own : ownKnob Try.prog.godebug = none := by kernel_rfl
theorem purseTotals_laidOut : laidOutB Try.prog = true := by kernel_rfl
set_option maxRecDepth 100000 in
theorem purseTotals_lifted (os : Os) (started : os.Started) (H : Type) (enc : TypeId × Value → H) :
    ReturnsInHanded {} Try.checked os 3 .any (Rows.purseTotalsSpec.pre6 enc Try.prog Try.f3 Rows.purseTotalsRow.domain false) (Rows.purseTotalsSpec.post enc Try.prog Try.f3 false true false false) := by
  refine returnsInHanded_of_change (C := Try.checked) purseTotals_own started (by kernel_rfl) Try.func3
    (ChangeSpec.witness6 (enc := enc) (C := Try.checked) false ⟨#[], #[.slice none 0 0, .slice none 0 0], []⟩ 8 (by kernel_rfl) (by kernel_rfl) (by kernel_rfl) (by kernel_rfl)) ?_
  intro W base args ds gs before hval0 hW hcnd _
  have hval : ∀ (j : Nat) t v, Try.f3.params[j]? = some t → args[j]? = some v → Value.okWide Try.prog W .any base t v := hval0
  have hW' := hW
  obtain ⟨p, q, hA0, hV, rfl, hfz, hnd⟩ := hW
  have hA : DataW.TrodAll enc Try.prog W 0 (fun _ => true) true Try.f3.params.toList args.toList ds p := hA0
  rw [Try.params3] at hA hval
  obtain ⟨v0, vs0, d0, ds0, p0, q0, hargs, rfl, rfl, h0, r0⟩ := trodAll_cons hA
  obtain ⟨v1, vs1, d1, ds1, p1, q1, rfl, rfl, rfl, h1, r1⟩ := trodAll_cons r0
  obtain ⟨rfl, rfl, rfl⟩ := trodAll_nil r1
  obtain rfl : args = #[v0, v1] := by cases args; simp_all
  obtain ⟨rfl, rfl⟩ := trodVars_none hV
  have k0 := h0
  have lt0 : ∀ x ∈ p0, x.block < W.heap.size := by obtain ⟨m, hm⟩ := k0; exact DataW.trod_lt m _ _ _ hm
  obtain ⟨ao0, len0, cap0, rfl⟩ := okWide_slice Try.underlying22 (hval 0 22 v0 rfl rfl)
  obtain ⟨z0, hl0, w0, hc0, wf0⟩ := ilists_of Try.underlying22 (by kernel_rfl) Try.underlying31 Try.underlying3 (by kernel_rfl) h0
  have k1 := h1
  have lt1 : ∀ x ∈ p1, x.block < W.heap.size := by obtain ⟨m, hm⟩ := k1; exact DataW.trod_lt m _ _ _ hm
  obtain ⟨ao1, len1, cap1, rfl⟩ := okWide_slice Try.underlying23 (hval 1 23 v1 rfl rfl)
  obtain ⟨z1, hl1, w1, hc1, wf1⟩ := ops9_of h1
  clear hA0 hval0
  refine (walk_purseTotals W ao0 z0 len0 cap0 hl0.symm w0 hc0 wf0 ao1 z1 len1 cap1 hl1.symm w1 hc1 wf1).mono fun e W' ⟨he, bel⟩ => ?_
  subst he
  exact ⟨_, rfl, _, _, _, [], _, [], hW', trodAll_mk1 (shut_bool Try.underlying4 _), (trodAll_cons_mk (Below.trod purseTotals_laidOut (by kernel_rfl) (of_decide_eq_true (by kernel_rfl)) k0 bel lt0) (trodAll_cons_mk (Below.trod purseTotals_laidOut (by kernel_rfl) (of_decide_eq_true (by kernel_rfl)) k1 bel lt1) trodAll_mk0)), rfl, bel.frame _, fun h => by cases h⟩

theorem purseTotals_over : Rows.purseTotalsRow.holds Try.pinned (OpenSpec.ofChange Rows.purseTotalsSpec) :=
  OpenClaim.holds_of_wide 3 Try.f3 rfl rfl rfl rfl rfl rfl rfl ⟨rfl, rfl, rfl, rfl, rfl⟩ rfl rfl rfl rfl rfl (by kernel_rfl) Try.func3 (by kernel_rfl)
    (of_decide_eq_true (by kernel_rfl)) (by unfold Func.isWrapper; first | (rw [if_pos (by decide +kernel)]; kernel_rfl) | (rw [if_neg (by decide +kernel)]; exact ⟨rfl, rfl⟩))
    (fun os started H enc _ => purseTotals_lifted os started H enc)

/-- The statement. -/
theorem purseTotals_holds : Rows.PurseTotalsSaid := purseTotals_over
#print axioms purseTotals_holds
end Go.Proofs.Ytadejcpifabpoaa
