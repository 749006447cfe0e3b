/- WireReads is true for every input, and its arguments read behind the call as before; no condition. -/
import Derived.Test.YtnohdbhkepdjbaaRefd3
import Derived.Test.YtnohdbhkepdjbaaOps4
import Derived.Test.YtnohdbhkepdjbaaLaw4
import Derived.Deep.RegionWith
namespace Go.Proofs.Ytnohdbhkepdjbaa
open Go.ChangeShapes Go.WideShapes Go.ChangeAt Go.RowKit
set_option linter.unusedVariables false

/-- Two decoders side by side, the program's and the reference's. -/
def DD (W w : World) (pd : Nat) (zs : List Int) (e : Int) (px : Nat) (xs : List Int) (ex : Int) : Prop :=
  ∃ gd gx, DecAt 72 w pd gd zs e ∧ DecAt 52 w px gx xs ex ∧ Below W.heap.size W w ∧ (W.heap.size ≤ pd ∧ W.heap.size ≤ px) ∧ pd ≠ px ∧ (zs = [] ∨ gd ≠ px) ∧ (xs = [] ∨ gx ≠ pd)
theorem DD.base {W w : World} {pd px : Nat} {zs xs : List Int} {e ex : Int} (h : DD W w pd zs e px xs ex) : Below W.heap.size W w := by obtain ⟨_, _, _, _, h, _⟩ := h; exact h
theorem DD.below {W w w' : World} {pd px : Nat} {zs xs : List Int} {e ex : Int} (h : DD W w pd zs e px xs ex) (hb : Below w.heap.size w w') : DD W w' pd zs e px xs ex := by
  obtain ⟨gd, gx, h1, h2, h3, h4⟩ := h
  exact ⟨gd, gx, h1.keep (Keeps.of_below (S := fun _ => False) hb) (fun f => f) (Or.inr (fun f => f)), h2.keep (Keeps.of_below (S := fun _ => False) hb) (fun f => f) (Or.inr (fun f => f)), h3.trans (hb.mono h3.size), h4⟩
theorem DD.drew {W w : World} {pd px : Nat} {zs xs : List Int} {e ex : Int} (h : DD W w pd zs e px xs ex) : DD W w.drew pd zs e px xs ex := h.below ((Keeps.refl (fun _ => False) w).drew.below (Nat.le_refl _) (fun _ f => f.elim))
theorem DD.left {W w w' : World} {pd px gd gx : Nat} {zs xs zs' : List Int} {ex e' : Int} (h2 : DecAt 52 w px gx xs ex) (h3 : Below W.heap.size W w) (h4 : W.heap.size ≤ pd ∧ W.heap.size ≤ px) (h5 : pd ≠ px) (h6 : zs = [] ∨ gd ≠ px) (h7 : xs = [] ∨ gx ≠ pd)
    (hz : zs = [] → zs' = []) (hp : DecPost 72 w pd gd zs' e' w') : DD W w' pd zs' e' px xs ex :=
  ⟨gd, gx, hp.1, h2.keep hp.2 (fun h => h5 h.symm) (h7.imp id (fun h h' => h h')), h3.trans (hp.2.below h3.size (fun k hk => by subst hk; exact h4.1)), h4, h5, h6.imp hz id, h7⟩
theorem DD.right {W w w' : World} {pd px gd gx : Nat} {zs xs xs' : List Int} {e ex' : Int} (h2 : DecAt 72 w pd gd zs e) (h3 : Below W.heap.size W w) (h4 : W.heap.size ≤ pd ∧ W.heap.size ≤ px) (h5 : pd ≠ px) (h6 : zs = [] ∨ gd ≠ px) (h7 : xs = [] ∨ gx ≠ pd)
    (hz : xs = [] → xs' = []) (hp : DecPost 52 w px gx xs' ex' w') : DD W w' pd zs e px xs' ex' :=
  ⟨gd, gx, h2.keep hp.2 (fun h => h5 h) (h6.imp id (fun h h' => h h')), hp.1, h3.trans (hp.2.below h3.size (fun k hk => by subst hk; exact h4.2)), h4, h5, h6, h7.imp hz id⟩
theorem decNum_nil (zs : List Int) (e size : Int) (h : zs = []) : (decNum zs e size).2.1 = [] := by
  subst h; unfold decNum; split
  · split <;> simp
  · rfl
theorem decBytes_nil (zs : List Int) (e : Int) (h : zs = []) : (decBytes zs e).2.1 = [] := by
  subst h; unfold decBytes; split
  · split
    · split <;> simp
    · rfl
  · rfl
theorem DD.num {W w : World} {pd px : Nat} {zs xs : List Int} {e ex : Int} (h : DD W w pd zs e px xs ex) (size : Int) (r : Int × List Int × Int) (hr : decNum zs e size = r) :
    Calls Try.prog 40 #[.pointer (some ⟨pd, 0, none⟩), .int .i64 size] w fun en w' => en = .returned (.int .i64 r.1) ∧ DD W w' pd r.2.1 r.2.2 px xs ex := by
  obtain ⟨gd, gx, h1, h2, h3, h4, h5, h6, h7⟩ := h
  subst hr
  exact (dec_num pd gd zs e size w h1).mono fun _ _ ⟨a, b⟩ => ⟨a, DD.left h2 h3 h4 h5 h6 h7 (decNum_nil zs e size) b⟩
theorem DD.xnum {W w : World} {pd px : Nat} {zs xs : List Int} {e ex : Int} (h : DD W w pd zs e px xs ex) (size : Int) (r : Int × List Int × Int) (hr : decNum xs ex size = r) :
    Calls Try.prog 41 #[.pointer (some ⟨px, 0, none⟩), .int .i64 size] w fun en w' => en = .returned (.int .i64 r.1) ∧ DD W w' pd zs e px r.2.1 r.2.2 := by
  obtain ⟨gd, gx, h1, h2, h3, h4, h5, h6, h7⟩ := h
  subst hr
  exact (refdec_num px gx xs ex size w h2).mono fun _ _ ⟨a, b⟩ => ⟨a, DD.right h1 h3 h4 h5 h6 h7 (decNum_nil xs ex size) b⟩
theorem DD.bytes {W w : World} {pd px : Nat} {zs xs : List Int} {e ex : Int} (h : DD W w pd zs e px xs ex) (r : List Int × List Int × Int) (hr : decBytes zs e = r) :
    Calls Try.prog 42 #[.pointer (some ⟨pd, 0, none⟩)] w fun en w' => (∃ ao cap, en = .returned (.slice ao r.1.length cap) ∧ w'.ownsRow 0 5 1 (.slice ao r.1.length cap) r.1.length (r.1.map (Value.int .u8)) ∧ (∀ g', (Value.slice ao r.1.length cap).ownBlock = some g' → w.heap.size ≤ g')) ∧ DD W w' pd r.2.1 r.2.2 px xs ex := by
  obtain ⟨gd, gx, h1, h2, h3, h4, h5, h6, h7⟩ := h
  subst hr
  refine (dec_bytes pd gd zs e w h1).mono fun _ _ ⟨b, ao, cap, a1, a2, a3⟩ => ⟨⟨ao, cap, a1, a2, a3⟩, DD.left h2 h3 h4 h5 h6 h7 (decBytes_nil zs e) b⟩
theorem DD.xbytes {W w : World} {pd px : Nat} {zs xs : List Int} {e ex : Int} (h : DD W w pd zs e px xs ex) (r : List Int × List Int × Int) (hr : decBytes xs ex = r) (ao : Option Addr) (cap : Nat) (R : List Int) (n : Nat) (hn : R.length = n) (hi : w.ownsRow 0 5 1 (.slice ao n cap) n (R.map (Value.int .u8))) (hg : ∀ g', (Value.slice ao n cap).ownBlock = some g' → g' ≠ px) :
    Calls Try.prog 43 #[.pointer (some ⟨px, 0, none⟩)] w fun en w' => (∃ ao' cap', en = .returned (.slice ao' r.1.length cap') ∧ IntsAt .u8 w' ao' r.1) ∧ IntsAt .u8 w' ao R ∧ DD W w' pd zs e px r.2.1 r.2.2 := by
  obtain ⟨gd, gx, h1, h2, h3, h4, h5, h6, h7⟩ := h
  subst hr
  refine (refdec_bytes px gx xs ex w h2).mono fun _ w' ⟨b, ao', cap', a1, a2, a3⟩ => ⟨⟨ao', cap', a1, (owns_at a2).2.1⟩, ?_, DD.right h1 h3 h4 h5 h6 h7 (decBytes_nil xs ex) b⟩
  exact (owns_at (ownsRow_same hi (fun g' hg' => b.2.block g' (hi.lt g' hg').2 (hg g' hg')))).2.1
theorem DD.left_ {W w : World} {pd px : Nat} {zs xs : List Int} {e ex : Int} (h : DD W w pd zs e px xs ex) :
    Calls Try.prog 44 #[.pointer (some ⟨pd, 0, none⟩)] w fun en w' => en = .returned (.int .i64 zs.length) ∧ w = w' := by
  obtain ⟨gd, gx, h1, _⟩ := h; exact dec_left pd gd zs e w h1
theorem DD.err {W w : World} {pd px : Nat} {zs xs : List Int} {e ex : Int} (h : DD W w pd zs e px xs ex) :
    Calls Try.prog 45 #[.pointer (some ⟨pd, 0, none⟩)] w fun en w' => en = .returned (.int .i64 e) ∧ w = w' := by
  obtain ⟨gd, gx, h1, _⟩ := h; exact dec_errno pd gd zs e w h1
theorem DD.ende {W w : World} {pd px : Nat} {zs xs : List Int} {e ex : Int} (h : DD W w pd zs e px xs ex) :
    Calls Try.prog 46 #[.pointer (some ⟨pd, 0, none⟩)] w fun en w' => en = .returned (.int .i64 (decEnd zs e)) ∧ w = w' := by
  obtain ⟨gd, gx, h1, _⟩ := h; exact dec_end pd gd zs e w h1
theorem DD.xende {W w : World} {pd px : Nat} {zs xs : List Int} {e ex : Int} (h : DD W w pd zs e px xs ex) :
    Calls Try.prog 47 #[.pointer (some ⟨px, 0, none⟩)] w fun en w' => en = .returned (.int .i64 (decEnd xs ex)) ∧ w = w' := by
  obtain ⟨gd, gx, _, h2, _⟩ := h; exact refdec_end px gx xs ex w h2
theorem DD.cells {W w : World} {pd px : Nat} {zs xs : List Int} {e ex : Int} (h : DD W w pd zs e px xs ex) : ∃ ao cap, w.cell? ⟨px, 0, none⟩ = some (.slice ao xs.length cap) ∧ w.cell? ⟨px, 1, none⟩ = some (.int .i64 ex) := by
  obtain ⟨gd, gx, _, ⟨ao, cap, h1, _⟩, _⟩ := h
  have c0 := blk_cell h1 0
  have c1 := blk_cell h1 1
  simp only [List.getElem?_toArray, List.getElem?_cons_zero, List.getElem?_cons_succ] at c0 c1
  exact ⟨ao, cap, c0, c1⟩
theorem DD.xlt {W w : World} {pd px : Nat} {zs xs : List Int} {e ex : Int} (h : DD W w pd zs e px xs ex) : px < w.heap.size := by obtain ⟨gd, gx, _, h2, _⟩ := h; exact h2.lt
theorem DD.inB {W w : World} {pd px : Nat} {zs xs : List Int} {e ex : Int} (h : DD W w pd zs e px xs ex) : InB zs := by obtain ⟨gd, gx, ⟨_, _, _, _, _, _, h, _⟩, _⟩ := h; exact h
theorem DD.new {W w1 w2 : World} {ao : Option Addr} {zs : List Int} {cap pd g : Nat} (hb : Below W.heap.size W w1) (hz : IntsAt .u8 W ao zs) (hcap : zs.length ≤ cap) (hcm : cap ≤ maxLen) (hB : InB zs) (hl : zs.length ≤ 140737488355328)
    (hd : DecAt 72 w2 pd g zs 0) (hb2 : Below w1.heap.size w1 w2) (hp : w1.heap.size ≤ pd) (hg : w1.heap.size ≤ g) :
    DD W (w2.alloc (.cells #[.slice ao zs.length cap, .int .i64 0] 52)) pd zs 0 w2.heap.size zs 0 := by
  have hs := hb.size
  have hs2 := hb2.size
  have hpl := hd.lt
  have hgl := hd.glt
  have hb12 : Below W.heap.size W w2 := hb.trans (hb2.mono hs)
  have ha : Below w2.heap.size w2 (w2.alloc (.cells #[.slice ao zs.length cap, .int .i64 0] 52)) := (Below.refl _ _).alloc (Nat.le_refl _) _
  have hi : IntsAt .u8 (w2.alloc (.cells #[.slice ao zs.length cap, .int .i64 0] 52)) ao zs := ints_below (ints_below hz hb12) ha
  have hgx : ∃ gx, (zs = [] ∨ ∀ a, ao = some a → a.block = gx) ∧ gx ≠ w2.heap.size ∧ (zs = [] ∨ gx ≠ pd) := by
    by_cases h0 : zs = []
    · exact ⟨w2.heap.size + 1, Or.inl h0, by omega, Or.inl h0⟩
    · cases ao with
      | none => exact absurd (List.eq_nil_of_length_eq_zero (ints_none hz)) h0
      | some a =>
        have := hz.lt h0
        exact ⟨a.block, Or.inr (fun b hb => by cases hb; rfl), by omega, Or.inr (by omega)⟩
  obtain ⟨gx, q1, q2, q3⟩ := hgx
  exact ⟨g, gx, hd.keep (Keeps.of_below (S := fun _ => False) ha) (fun f => f) (Or.inr (fun f => f)), ⟨ao, cap, heap_alloc_new w2 _, hi, hcap, hcm, hB, hl, q1, q2⟩, hb12.trans (ha.mono (by omega)), ⟨by omega, by omega⟩, by omega, hgl.imp id (fun h => by omega), q3⟩

theorem decBytes_inB (zs : List Int) (e : Int) (h : InB zs) : InB (decBytes zs e).1 := by
  unfold decBytes
  split
  · split
    · split
      · intro z hz; cases hz
      · intro z hz; exact h z (List.mem_of_mem_drop (List.mem_of_mem_take hz))
    · intro z hz; cases hz
  · intro z hz; cases hz

set_option maxRecDepth 100000 in
set_option maxHeartbeats 4000000 in
theorem reads_core (W : World) (ao : Option Addr) (zs : List Int) (m cap : Nat) (hm : zs.length = m) (hz : IntsAt .u8 W ao zs) (hB : InB zs) (hzc : m ≤ cap) (hzm : cap ≤ maxLen) (to_ : Option Addr) (rs : List WOp) (n tcap : Nat) (hn : rs.length = n) (HT0 : OpsAt W to_ rs) :
    Calls Try.prog 10 #[.slice ao m cap, .slice to_ n tcap] W fun e w' => e = .returned (.bool true) ∧ Below W.heap.size W w' := by
  have hb0 := Lib.hid (Below.refl W.heap.size W)
  have HT := Lib.hid HT0
  have HN := Lib.hid hn
  have HM := Lib.hid hm
  have HZ := Lib.hid hz
  have HBB := Lib.hid hB
  clear HT0 hn hz hB hm
  by_cases hbig : m ≤ 2000 ∧ n ≤ 200
  · obtain ⟨hs1, hs2⟩ := hbig
    have i1 : ¬ (2000 : Int) < (m : Int) := by omega
    have i2 : ¬ (200 : Int) < (n : Int) := by omega
    go_enter Try.func10, Try.ntmps10
    go_wp2_with fail
    refine (first4 W _ hb0.out).mono ?_
    rintro e w1 ⟨rfl, hb1⟩
    have HB1 := Lib.hid hb1
    have HND := Lib.hid (newDec ao zs m cap w1 HM.out (HZ.out.same (fun a ha hl => hb1.block _ hl)) HBB.out (by omega))
    clear hb1
    go_wp2_with fail
    refine HND.out.mono ?_
    rintro e w2 ⟨pd, g, rfl, hd, hb2, hpd, hg⟩
    have H0 := Lib.hid (HM.out ▸ DD.new HB1.out HZ.out (cap := cap) (by have := HM.out; omega) hzm HBB.out (by have := HM.out; omega) hd hb2 hpd hg)
    clear hd hb2 hpd hg HND
    go_wp2_with fail
    generalize w2.alloc (.cells #[.slice ao m cap, .int .i64 0] 52) = w3 at *
    go_loopw [7] (fun i wr => ∃ k : Nat, ∃ zs' : List Int, ∃ e : Int, k ≤ n ∧ i = .int .i64 k ∧ DD W wr pd zs' e w2.heap.size zs' e) (fun i _ => n - (intOf i).toNat)
    case atStart => exact ⟨0, zs, 0, Nat.zero_le _, rfl, H0.out⟩
    case round =>
      obtain ⟨k, z1, e1, hk, rfl, hE⟩ := hrel
      have HE := Lib.hid hE
      by_cases hlt : k < n
      · have hkb : k < rs.length := by rw [HN.out]; exact hlt
        have HC : Hid (∃ b off, to_ = some ⟨b, off, none⟩ ∧ ∀ w', Below W.heap.size W w' → (w'.cell? ⟨b, off + k * 4, none⟩ = some (.int .i64 rs[k].k) ∧ w'.cell? ⟨b, off + k * 4 + 1, none⟩ = some (.int .i64 rs[k].n) ∧
            w'.cell? ⟨b, off + k * 4 + 2, none⟩ = some (.int .i64 rs[k].z) ∧ w'.cell? ⟨b, off + k * 4 + 3, none⟩ = some (.slice rs[k].b.ao rs[k].b.zs.length rs[k].b.cap))) := Lib.hid (by
          obtain ⟨b, off, h1, h2⟩ := op_cell HT.out k hkb
          refine ⟨b, off, h1, fun w' hb => ?_⟩
          obtain ⟨b', off', h1', h2'⟩ := op_cell (HT.out.below hb) k hkb
          rw [h1] at h1'; cases h1'; exact h2')
        generalize rs[k] = o at *
        obtain ⟨b, off, rfl, hc⟩ := HC.out
        obtain ⟨c0, _, c2, _⟩ := hc wr hE.base
        have HC2 : Hid (∀ w', Below W.heap.size W w' → w'.cell? ⟨b, off + k * 4 + 2, none⟩ = some (.int .i64 o.z)) := Lib.hid (fun w' hb => (hc w' hb).2.2.1)
        have hxl := hE.xlt
        have HXL := Lib.hid hxl
        clear hc HC hxl
        have i0 : (0 : Int) ≤ (k : Int) := by omega
        have i5 : (k : Int) < (n : Int) := by omega
        by_cases hk0 : o.k = 0
        · have hk1 : (o.k == 0) = true := by simp [hk0]
          generalize hq : decNum z1 e1 o.z = q at *
          obtain ⟨q1, z2, e2⟩ := q
          have HQ := Lib.hid hq
          clear hk0 hE hq
          go_wp2_with fail
          go_region_held3 (fun w' => w'.cell? ⟨b, off + k * 4 + 2, none⟩ = some (.int .i64 o.z))
            (first | go_keep | exact HC2.out _ (DD.base (by assumption)))
            ((first
              | (go_at_call 40; refine (HE.out.drew.num o.z (q1, z2, e2) HQ.out).mono ?_; rintro e w4 ⟨rfl, hd4⟩)
              | (go_at_call 41; refine (hd4.xnum o.z (q1, z2, e2) HQ.out).mono ?_; rintro e w5 ⟨rfl, hd5⟩)))
          have HD5 := Lib.hid hd5
          obtain ⟨xa, xc, x0, x1⟩ := hd5.cells
          clear hd5 hd4
          go_wp2_with fail
          go_region_held3 (fun w' => w'.cell? ⟨w2.heap.size, 0, none⟩ = some (.slice xa z2.length xc) ∧ w'.cell? ⟨w2.heap.size, 1, none⟩ = some (.int .i64 e2))
            (go_keep)
            ((first
              | (go_at_call 44; refine (HD5.out.drew.left_).mono ?_; rintro e w6 ⟨rfl, rfl⟩)
              | (go_at_call 45; refine (HD5.out.drew.err).mono ?_; rintro e w6 ⟨rfl, rfl⟩)))
          go_wp2
          go_roundw
          case rel => exact ⟨k + 1, z2, e2, by omega, by go_num, HD5.out.drew⟩
          case measure => simp [intOf]; omega
        · have hk1 : (o.k == 0) = false := by simp [hk0]
          have HRI := Lib.hid (decBytes_inB z1 e1 hE.inB)
          generalize hq : decBytes z1 e1 = q at *
          obtain ⟨R, z2, e2⟩ := q
          have HQ := Lib.hid hq
          have HRE := Lib.hid (eqB_self R)
          clear hk0 hE hq c2
          go_wp2_with fail
          refine (HE.out.bytes (R, z2, e2) HQ.out).mono ?_
          rintro e w4 ⟨⟨ao1, cap1, rfl, ho1, hf1⟩, hd4⟩
          have HO1 := Lib.hid ho1
          have HD4 := Lib.hid hd4
          have HF1 := Lib.hid (show ∀ g', (Value.slice ao1 R.length cap1).ownBlock = some g' → g' ≠ w2.heap.size from fun g' hg => by have := hf1 g' hg; have := HXL.out; omega)
          clear ho1 hf1 hd4
          go_wp2_with fail
          refine (HD4.out.xbytes (R, z2, e2) HQ.out ao1 cap1 R R.length rfl HO1.out HF1.out).mono ?_
          rintro e w5 ⟨⟨ao2, cap2, rfl, hi2⟩, hi1, hd5⟩
          have HD5 := Lib.hid hd5
          have HI1 := Lib.hid hi1
          have HI2 := Lib.hid hi2
          obtain ⟨xa, xc, x0, x1⟩ := hd5.cells
          clear hd5 hi1 hi2
          go_wp2_with fail
          refine (bytes_eq ao1 ao2 R R _ _ _ _ w5 rfl rfl HI1.out HI2.out HRI.out HRI.out).mono ?_
          rintro e w6 ⟨rfl, rfl⟩
          rw [HRE.out]
          go_wp2_with fail
          go_region_held3 (fun w' => w'.cell? ⟨w2.heap.size, 0, none⟩ = some (.slice xa z2.length xc) ∧ w'.cell? ⟨w2.heap.size, 1, none⟩ = some (.int .i64 e2))
            (go_keep)
            ((first
              | (go_at_call 44; refine (HD5.out.drew.left_).mono ?_; rintro e w6 ⟨rfl, rfl⟩)
              | (go_at_call 45; refine (HD5.out.drew.err).mono ?_; rintro e w6 ⟨rfl, rfl⟩)))
          go_wp2
          go_roundw
          case rel => exact ⟨k + 1, z2, e2, by omega, by go_num, HD5.out.drew⟩
          case measure => simp [intOf]; omega
      · obtain rfl : k = n := by omega
        have HB5 := Lib.hid hE.base
        clear hE hlt
        go_wp2_with fail
        refine (first4_any wr).mono ?_
        rintro e w5 ⟨rfl, hb5⟩
        have HD5 := Lib.hid (HE.out.below hb5)
        clear hb5
        go_wp2_with fail
        refine (HD5.out.ende).mono ?_
        rintro e w6 ⟨rfl, rfl⟩
        go_wp2_with fail
        refine (HD5.out.xende).mono ?_
        rintro e w6 ⟨rfl, rfl⟩
        generalize decEnd z1 e1 = E1 at *
        go_wp2
        go_ret
        exact ⟨by simp, HD5.out.base⟩
  · have hbig' : 2000 < m ∨ (¬ 2000 < m ∧ 200 < n) := by omega
    clear hbig
    rcases hbig' with hs1 | ⟨hs1, hs2⟩
    all_goals
      have i1 : (2000 : Int) < (m : Int) ∨ ¬ (2000 : Int) < (m : Int) := by omega
      go_enter Try.func10, Try.ntmps10
      go_wp2_with fail
      refine (first4 W _ hb0.out).mono ?_
      rintro e w1 ⟨rfl, hb1⟩
      have HB1 := Lib.hid hb1
      clear hb1 i1
      go_wp2_with (go_at_call 19; refine (first4 W _ HB1.out).mono ?_; rintro e w8 ⟨rfl, hb8⟩)
      go_ret
      exact ⟨rfl, hb8⟩

theorem walk_wireReads (W : World) (ao : Option Addr) (zs : List Int) (cap : Nat) (hz : IntsAt .u8 W ao zs) (hc : zs.length ≤ cap ∧ cap ≤ maxLen) (hB : InB zs) (ao1 : Option Addr) (rs : List WOp) (n cap1 : Nat) (hn : rs.length = n) (h : OpsAt W ao1 rs) :
    Calls Try.prog 10 #[.slice ao zs.length cap, .slice ao1 n cap1] W fun e w' => e = .returned (.bool true) ∧ Below W.heap.size W w' := reads_core W ao zs zs.length cap rfl hz hB hc.1 hc.2 ao1 rs n cap1 hn h

/-! ### The row's step for WireReads: the frame. -/
theorem wireReads_own : ownKnob Try.prog.godebug = none := by kernel_rfl
theorem wireReads_laidOut : laidOutB Try.prog = true := by kernel_rfl
set_option maxRecDepth 100000 in
theorem wireReads_lifted (os : Os) (started : os.Started) (H : Type) (enc : TypeId × Value → H) :
    ReturnsInHanded {} Try.checked os 10 .any (Rows.wireReadsSpec.pre6 enc Try.prog Try.f10 Rows.wireReadsRow.domain false) (Rows.wireReadsSpec.post enc Try.prog Try.f10 false true false false) := by
  refine returnsInHanded_of_change (C := Try.checked) wireReads_own started (by kernel_rfl) Try.func10
    (ChangeSpec.witness6 (enc := enc) (C := Try.checked) false ⟨#[], #[.slice none 0 0, .slice none 0 0], []⟩ 8 (by kernel_rfl) (by kernel_rfl) (by kernel_rfl) (by kernel_rfl)) ?_
  intro W base args ds gs before hval0 hW hcnd _
  have hval : ∀ (j : Nat) t v, Try.f10.params[j]? = some t → args[j]? = some v → Value.okWide Try.prog W .any base t v := hval0
  have hW' := hW
  obtain ⟨p, q, hA0, hV, rfl, hfz, hnd⟩ := hW
  have hA : DataW.TrodAll enc Try.prog W 0 (fun _ => true) true Try.f10.params.toList args.toList ds p := hA0
  rw [Try.params10] at hA hval
  obtain ⟨v0, vs0, d0, ds0, p0, q0, hargs, rfl, rfl, h0, r0⟩ := trodAll_cons hA
  obtain ⟨v1, vs1, d1, ds1, p1, q1, rfl, rfl, rfl, h1, r1⟩ := trodAll_cons r0
  obtain ⟨rfl, rfl, rfl⟩ := trodAll_nil r1
  obtain rfl : args = #[v0, v1] := by cases args; simp_all
  obtain ⟨rfl, rfl⟩ := trodVars_none hV
  have k0 := h0
  have lt0 : ∀ x ∈ p0, x.block < W.heap.size := by obtain ⟨m, hm⟩ := k0; exact DataW.trod_lt m _ _ _ hm
  obtain ⟨ao0, len0, cap0, rfl⟩ := okWide_slice Try.underlying34 (hval 0 34 v0 rfl rfl)
  obtain ⟨z0, rfl, w0, hc0, wf0⟩ := ints_of Try.underlying34 Try.underlying5 (by kernel_rfl) h0
  have k1 := h1
  have lt1 : ∀ x ∈ p1, x.block < W.heap.size := by obtain ⟨m, hm⟩ := k1; exact DataW.trod_lt m _ _ _ hm
  obtain ⟨ao1, len1, cap1, rfl⟩ := okWide_slice Try.underlying40 (hval 1 40 v1 rfl rfl)
  obtain ⟨z1, hl1, w1, hc1, wf1⟩ := ops4_of h1
  clear hA0 hval0
  refine (walk_wireReads W ao0 z0 cap0 w0 ⟨hc0, wf0.1⟩ (inB_of_wf wf0.2) ao1 z1 len1 cap1 hl1.symm w1).mono fun e W' ⟨he, bel⟩ => ?_
  subst he
  exact ⟨_, rfl, _, _, _, [], _, [], hW', trodAll_mk1 (shut_bool Try.underlying4 _), (trodAll_cons_mk (Below.trod wireReads_laidOut (by kernel_rfl) (of_decide_eq_true (by kernel_rfl)) k0 bel lt0) (trodAll_cons_mk (Below.trod wireReads_laidOut (by kernel_rfl) (of_decide_eq_true (by kernel_rfl)) k1 bel lt1) trodAll_mk0)), rfl, bel.frame _, fun h => by cases h⟩

theorem wireReads_over : Rows.wireReadsRow.holds Try.pinned (OpenSpec.ofChange Rows.wireReadsSpec) :=
  OpenClaim.holds_of_wide 10 Try.f10 rfl rfl rfl rfl rfl rfl rfl ⟨rfl, rfl, rfl, rfl, rfl⟩ rfl rfl rfl rfl rfl (by kernel_rfl) Try.func10 (by kernel_rfl)
    (of_decide_eq_true (by kernel_rfl)) (by unfold Func.isWrapper; first | (rw [if_pos (by decide +kernel)]; kernel_rfl) | (rw [if_neg (by decide +kernel)]; exact ⟨rfl, rfl⟩))
    (fun os started H enc _ => wireReads_lifted os started H enc)

/-- The statement. -/
theorem wireReads_holds : Rows.WireReadsSaid := wireReads_over
#print axioms wireReads_holds
end Go.Proofs.Ytnohdbhkepdjbaa
