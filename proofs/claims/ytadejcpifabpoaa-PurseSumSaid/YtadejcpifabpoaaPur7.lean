/- Contract of cfllaw9.Few; purses of a law; what is taken and given back. -/
import Derived.Test.YtadejcpifabpoaaPur6
import Derived.Test.YtadejcpifabpoaaFewl
namespace Go.Proofs.Ytadejcpifabpoaa
open Go.RowKit
set_option linter.unusedVariables false

set_option maxHeartbeats 1000000 in
theorem few9_any (ao : Option Addr) (bs : List ISl) (n cap : Nat) (w : World) (hn : bs.length = n) (h : IntsList w ao bs) (hcap : n ≤ cap) (hm : cap ≤ maxLen) :
    Calls Try.prog 14 #[.slice ao n cap] w fun e w' => e = .returned (.bool (fewB (bs.map (fun o => o.zs.length)) 100 1000)) ∧ w = w' := by
  have HB := Lib.hid h
  have HN := Lib.hid hn
  obtain ⟨ls, hls⟩ : ∃ ls, ls = (bs.map (fun o => o.zs.length)).map (fun x => min x (1000 + 1)) := ⟨_, rfl⟩
  have hll : ls.length = n := by rw [hls]; simp [hn]
  have hmax : ∀ k, (ls.take k).sum ≤ n * (1000 + 1) ∧ (ls.take k).sum ≤ k * (1000 + 1) := by
    intro k
    rw [hls, ← List.map_take]
    have := sum_min_bound ((bs.map (fun o => o.zs.length)).take k) 1000
    have e : ((bs.map (fun o => o.zs.length)).take k).length ≤ n := by simp [hn]; omega
    have e2 : ((bs.map (fun o => o.zs.length)).take k).length ≤ k := by simp; omega
    exact ⟨Nat.le_trans this (Nat.mul_le_mul_right _ e), Nat.le_trans this (Nat.mul_le_mul_right _ e2)⟩
  have hb : ∀ k, k ≤ 100 → (ls.take k).sum ≤ 1000001000 := by
    intro k hk
    have := (hmax k).2
    have h3 : k * (1000 + 1) ≤ 1000 * 1000001 := Nat.mul_le_mul (by omega) (by omega)
    omega
  have HLS := Lib.hid hls
  have HLL := Lib.hid hll
  have HBD := Lib.hid hb
  unfold maxLen at hm
  clear h hn hls hll hmax hb
  go_enter Try.func14, Try.ntmps14
  go_wp2_with fail
  go_loop [3, 4] (fun t i => ∃ k : Nat, k ≤ n ∧ k ≤ 100 ∧ i = .int .i64 k ∧ t = .int .i64 ((ls.take k).sum : Nat)) (fun _ i => n - (intOf i).toNat)
  case atStart => exact ⟨0, Nat.zero_le _, Nat.zero_le _, rfl, rfl⟩
  case round =>
    obtain ⟨k, hk, hk2, rfl, rfl⟩ := hrel
    have hbd := HBD.out k hk2
    by_cases hlt : k < n
    · by_cases hlt2 : k < 100
      · have hkl : k < ls.length := by rw [HLL.out]; exact hlt
        have hkb : k < bs.length := by rw [HN.out]; exact hlt
        obtain ⟨b, off, ha, hc⟩ := il_cell HB.out k hkb
        have HS := Lib.hid (sum_take_succ ls k hkl)
        have hmin : ls[k] = min bs[k].zs.length (1000 + 1) := by simp [HLS.out]
        have HMIN := Lib.hid hmin
        generalize ls[k] = m at *
        generalize bs[k].zs.length = z at *
        clear hmin hkl
        subst ha
        generalize (ls.take k).sum = s at *
        have i1 : (k : Int) < (n : Int) := by omega
        have i2 : (k : Int) < (100 : Int) := by omega
        go_wp2
        go_round
        case rel => exact ⟨k + 1, by omega, by omega, by go_num, by rw [HS.out, HMIN.out]; congr 1; split <;> omega⟩
        case measure => simp [intOf]; omega
      · obtain rfl : 100 = k := by omega
        have HF := Lib.hid (show fewB (bs.map (fun o => o.zs.length)) 100 1000 = false by simp [fewB, HN.out]; omega)
        have i1 : (100 : Int) < (n : Int) := by omega
        have i2 : ¬ (n : Int) ≤ (100 : Int) := by omega
        clear hlt2
        go_wp2
        go_ret
        exact ⟨ret_bool HF.out.symm, rfl⟩
    · obtain rfl : k = n := by omega
      have i2 : (k : Int) ≤ (100 : Int) := by omega
      have HT : Hid ((ls.take k).sum = (((bs.map (fun o => o.zs.length)).take 100).map (fun x => min x (1000 + 1))).sum) := Lib.hid (by
        rw [List.take_of_length_le (by rw [HLL.out]; exact Nat.le_refl _), HLS.out, List.take_of_length_le (l := bs.map _) (by simp [HN.out]; omega)])
      by_cases hs : (ls.take k).sum ≤ 1000
      · have HF := Lib.hid (show fewB (bs.map (fun o => o.zs.length)) 100 1000 = true by
          unfold fewB
          rw [← HT.out]
          simp [HN.out]; omega)
        generalize (ls.take k).sum = s at *
        have i3 : (s : Int) ≤ (1000 : Int) := by omega
        clear hlt
        go_wp2
        go_ret
        exact ⟨ret_bool HF.out.symm, rfl⟩
      · have HF := Lib.hid (show fewB (bs.map (fun o => o.zs.length)) 100 1000 = false by
          unfold fewB
          rw [← HT.out]
          simp [HN.out]; omega)
        generalize (ls.take k).sum = s at *
        have i3 : ¬ (s : Int) ≤ (1000 : Int) := by omega
        clear hlt
        go_wp2
        go_ret
        exact ⟨ret_bool HF.out.symm, rfl⟩


/-- A purse of a law that began in W. -/
def LP (T : TypeId) (W w : World) (S : Nat → Prop) (q n m : Nat) (b : Nat → Nat → Int) : Prop := PAt T w q S n m b ∧ Below W.heap.size W w ∧ ∀ k, S k → W.heap.size ≤ k
section
variable {T : TypeId} {W w w' : World} {S : Nat → Prop} {q n m : Nat} {b b' : Nat → Nat → Int}
theorem LP.base (h : LP T W w S q n m b) : Below W.heap.size W w := h.2.1
theorem LP.below (h : LP T W w S q n m b) (hb : Below w.heap.size w w') : LP T W w' S q n m b := ⟨h.1.below hb, h.2.1.trans (hb.mono h.2.1.size), h.2.2⟩
theorem LP.drew (h : LP T W w S q n m b) : LP T W w.drew S q n m b := h.below ((Keeps.refl (fun _ => False) w).drew.below (Nat.le_refl _) (fun _ f => f.elim))
theorem LP.post (h : LP T W w S q n m b) (hp : PPost T w q S n m b' w') : LP T W w' S q n m b' := ⟨hp.1, h.2.1.trans (hp.2.below h.2.1.size h.2.2), h.2.2⟩
theorem LP.new (h : PNew T w n m b q w') (hb : Below W.heap.size W w) : LP T W w' (fun k => W.heap.size ≤ k ∧ k < w'.heap.size) q n m b := ⟨(h.from_ hb).1, (h.from_ hb).2, fun k hk => hk.1⟩
end

section
variable {W w : World} {S : Nat → Prop} {q n m : Nat} {b : Nat → Nat → Int}
theorem LP.has (h : LP 75 W w S q n m b) (a j : Int) : Calls Try.prog 20 #[.pointer (some ⟨q, 0, none⟩), .int .i64 a, .int .i64 j] w fun e w' => e = .returned (.int .i64 (getB n m b a j)) ∧ w = w' := pur_has q n m S b w h.1 a j
theorem LP.total (h : LP 75 W w S q n m b) (hg : Good n m b) (j : Int) : Calls Try.prog 21 #[.pointer (some ⟨q, 0, none⟩), .int .i64 j] w fun e w' => e = .returned (.int .i64 (totB n m b j)) ∧ w = w' := pur_total q n m S b w h.1 hg j
theorem LP.give (h : LP 75 W w S q n m b) (hg : Good n m b) (a j x : Int) : Calls Try.prog 25 #[.pointer (some ⟨q, 0, none⟩), .int .i64 a, .int .i64 j, .int .i64 x] w fun e w' => e = .returned (.int .i64 (giveE n m b a j x)) ∧ LP 75 W w' S q n m (giveN n m b a j x) :=
  (pur_give q n m S b w h.1 hg a j x).mono fun _ _ ⟨a, b⟩ => ⟨a, h.post b⟩
theorem LP.take (h : LP 75 W w S q n m b) (hg : Good n m b) (a j x : Int) : Calls Try.prog 27 #[.pointer (some ⟨q, 0, none⟩), .int .i64 a, .int .i64 j, .int .i64 x] w fun e w' => e = .returned (.int .i64 (takeE n m b a j x)) ∧ LP 75 W w' S q n m (takeN n m b a j x) :=
  (pur_take q n m S b w h.1 hg a j x).mono fun _ _ ⟨a, b⟩ => ⟨a, h.post b⟩
theorem LP.move (h : LP 75 W w S q n m b) (hg : Good n m b) (f t j x : Int) : Calls Try.prog 19 #[.pointer (some ⟨q, 0, none⟩), .int .i64 f, .int .i64 t, .int .i64 j, .int .i64 x] w fun e w' => e = .returned (.int .i64 (moveE n m b f t j x)) ∧ LP 75 W w' S q n m (moveN n m b f t j x) :=
  (pur_move q n m S b w h.1 hg f t j x).mono fun _ _ ⟨a, b⟩ => ⟨a, h.post b⟩
end
section
variable {W w : World} {S : Nat → Prop} {q n m : Nat} {b : Nat → Nat → Int}
theorem LP.xhas (h : LP 89 W w S q n m b) (a j : Int) : Calls Try.prog 30 #[.pointer (some ⟨q, 0, none⟩), .int .i64 a, .int .i64 j] w fun e w' => e = .returned (.int .i64 (getB n m b a j)) ∧ w = w' := ref9_has q n m S b w h.1 a j
theorem LP.xtotal (h : LP 89 W w S q n m b) (hg : Good n m b) (j : Int) : Calls Try.prog 31 #[.pointer (some ⟨q, 0, none⟩), .int .i64 j] w fun e w' => e = .returned (.int .i64 (totB n m b j)) ∧ w = w' := ref9_total q n m S b w h.1 hg j
theorem LP.xgive (h : LP 89 W w S q n m b) (hg : Good n m b) (a j x : Int) : Calls Try.prog 26 #[.pointer (some ⟨q, 0, none⟩), .int .i64 a, .int .i64 j, .int .i64 x] w fun e w' => e = .returned (.int .i64 (giveE n m b a j x)) ∧ LP 89 W w' S q n m (giveN n m b a j x) :=
  (ref9_give q n m S b w h.1 hg a j x).mono fun _ _ ⟨a, b⟩ => ⟨a, h.post b⟩
theorem LP.xtake (h : LP 89 W w S q n m b) (hg : Good n m b) (a j x : Int) : Calls Try.prog 28 #[.pointer (some ⟨q, 0, none⟩), .int .i64 a, .int .i64 j, .int .i64 x] w fun e w' => e = .returned (.int .i64 (takeE n m b a j x)) ∧ LP 89 W w' S q n m (takeN n m b a j x) :=
  (ref9_take q n m S b w h.1 hg a j x).mono fun _ _ ⟨a, b⟩ => ⟨a, h.post b⟩
theorem LP.xmove (h : LP 89 W w S q n m b) (hg : Good n m b) (f t j x : Int) : Calls Try.prog 29 #[.pointer (some ⟨q, 0, none⟩), .int .i64 f, .int .i64 t, .int .i64 j, .int .i64 x] w fun e w' => e = .returned (.int .i64 (moveE n m b f t j x)) ∧ LP 89 W w' S q n m (moveN n m b f t j x) :=
  (ref9_move q n m S b w h.1 hg f t j x).mono fun _ _ ⟨a, b⟩ => ⟨a, h.post b⟩
end
/-- Two purses side by side, the program's and the reference's. -/
def LP2 (W w : World) (S : Nat → Prop) (q : Nat) (S' : Nat → Prop) (q' n m : Nat) (b b' : Nat → Nat → Int) : Prop := LP 75 W w S q n m b ∧ LP 89 W w S' q' n m b' ∧ ∀ k, S k → ¬ S' k
section
variable {W w w' : World} {S S' : Nat → Prop} {q q' n m : Nat} {b b' : Nat → Nat → Int}
theorem LP2.base (h : LP2 W w S q S' q' n m b b') : Below W.heap.size W w := h.1.base
theorem LP2.below (h : LP2 W w S q S' q' n m b b') (hb : Below w.heap.size w w') : LP2 W w' S q S' q' n m b b' := ⟨h.1.below hb, h.2.1.below hb, h.2.2⟩
theorem LP2.drew (h : LP2 W w S q S' q' n m b b') : LP2 W w.drew S q S' q' n m b b' := ⟨h.1.drew, h.2.1.drew, h.2.2⟩
theorem LP2.new {wm : World} (h1 : LP 75 W wm (fun k => W.heap.size ≤ k ∧ k < wm.heap.size) q n m b) (h2 : PNew 89 wm n m b' q' w') :
    LP2 W w' (fun k => W.heap.size ≤ k ∧ k < wm.heap.size) q (fun k => wm.heap.size ≤ k ∧ k < w'.heap.size) q' n m b b' :=
  ⟨h1.below h2.2, ⟨h2.1, h1.base.trans (h2.2.mono h1.base.size), fun k hk => by have := h1.base.size; omega⟩, fun k hk hk' => by omega⟩
theorem LP2.give (h : LP2 W w S q S' q' n m b b') (hg : Good n m b) (a j x : Int) : Calls Try.prog 25 #[.pointer (some ⟨q, 0, none⟩), .int .i64 a, .int .i64 j, .int .i64 x] w fun e w' => e = .returned (.int .i64 (giveE n m b a j x)) ∧ LP2 W w' S q S' q' n m (giveN n m b a j x) b' ∧ Keeps (fun k => S k ∨ S' k) w w' :=
  (pur_give q n m S b w h.1.1 hg a j x).mono fun _ _ ⟨a, b⟩ => ⟨a, ⟨h.1.post b, ⟨h.2.1.1.keep b.2 (fun k hk hk' => h.2.2 k hk' hk), (h.1.post b).base, h.2.1.2.2⟩, h.2.2⟩, b.2.mono (fun _ _ h => Or.inl h)⟩
theorem LP2.xgive (h : LP2 W w S q S' q' n m b b') (hg : Good n m b') (a j x : Int) : Calls Try.prog 26 #[.pointer (some ⟨q', 0, none⟩), .int .i64 a, .int .i64 j, .int .i64 x] w fun e w' => e = .returned (.int .i64 (giveE n m b' a j x)) ∧ LP2 W w' S q S' q' n m b (giveN n m b' a j x) ∧ Keeps (fun k => S k ∨ S' k) w w' :=
  (ref9_give q' n m S' b' w h.2.1.1 hg a j x).mono fun _ _ ⟨a, b⟩ => ⟨a, ⟨⟨h.1.1.keep b.2 (fun k hk hk' => h.2.2 k hk hk'), (h.2.1.post b).base, h.1.2.2⟩, h.2.1.post b, h.2.2⟩, b.2.mono (fun _ _ h => Or.inr h)⟩
theorem LP2.take (h : LP2 W w S q S' q' n m b b') (hg : Good n m b) (a j x : Int) : Calls Try.prog 27 #[.pointer (some ⟨q, 0, none⟩), .int .i64 a, .int .i64 j, .int .i64 x] w fun e w' => e = .returned (.int .i64 (takeE n m b a j x)) ∧ LP2 W w' S q S' q' n m (takeN n m b a j x) b' ∧ Keeps (fun k => S k ∨ S' k) w w' :=
  (pur_take q n m S b w h.1.1 hg a j x).mono fun _ _ ⟨a, b⟩ => ⟨a, ⟨h.1.post b, ⟨h.2.1.1.keep b.2 (fun k hk hk' => h.2.2 k hk' hk), (h.1.post b).base, h.2.1.2.2⟩, h.2.2⟩, b.2.mono (fun _ _ h => Or.inl h)⟩
theorem LP2.xtake (h : LP2 W w S q S' q' n m b b') (hg : Good n m b') (a j x : Int) : Calls Try.prog 28 #[.pointer (some ⟨q', 0, none⟩), .int .i64 a, .int .i64 j, .int .i64 x] w fun e w' => e = .returned (.int .i64 (takeE n m b' a j x)) ∧ LP2 W w' S q S' q' n m b (takeN n m b' a j x) ∧ Keeps (fun k => S k ∨ S' k) w w' :=
  (ref9_take q' n m S' b' w h.2.1.1 hg a j x).mono fun _ _ ⟨a, b⟩ => ⟨a, ⟨⟨h.1.1.keep b.2 (fun k hk hk' => h.2.2 k hk hk'), (h.2.1.post b).base, h.1.2.2⟩, h.2.1.post b, h.2.2⟩, b.2.mono (fun _ _ h => Or.inr h)⟩
theorem LP2.move (h : LP2 W w S q S' q' n m b b') (hg : Good n m b) (f t j x : Int) : Calls Try.prog 19 #[.pointer (some ⟨q, 0, none⟩), .int .i64 f, .int .i64 t, .int .i64 j, .int .i64 x] w fun e w' => e = .returned (.int .i64 (moveE n m b f t j x)) ∧ LP2 W w' S q S' q' n m (moveN n m b f t j x) b' ∧ Keeps (fun k => S k ∨ S' k) w w' :=
  (pur_move q n m S b w h.1.1 hg f t j x).mono fun _ _ ⟨a, b⟩ => ⟨a, ⟨h.1.post b, ⟨h.2.1.1.keep b.2 (fun k hk hk' => h.2.2 k hk' hk), (h.1.post b).base, h.2.1.2.2⟩, h.2.2⟩, b.2.mono (fun _ _ h => Or.inl h)⟩
theorem LP2.xmove (h : LP2 W w S q S' q' n m b b') (hg : Good n m b') (f t j x : Int) : Calls Try.prog 29 #[.pointer (some ⟨q', 0, none⟩), .int .i64 f, .int .i64 t, .int .i64 j, .int .i64 x] w fun e w' => e = .returned (.int .i64 (moveE n m b' f t j x)) ∧ LP2 W w' S q S' q' n m b (moveN n m b' f t j x) ∧ Keeps (fun k => S k ∨ S' k) w w' :=
  (ref9_move q' n m S' b' w h.2.1.1 hg f t j x).mono fun _ _ ⟨a, b⟩ => ⟨a, ⟨⟨h.1.1.keep b.2 (fun k hk hk' => h.2.2 k hk hk'), (h.2.1.post b).base, h.1.2.2⟩, h.2.1.post b, h.2.2⟩, b.2.mono (fun _ _ h => Or.inr h)⟩
end

theorem upd_back (b : Nat → Nat → Int) (a j : Nat) (u v : Int) (h : v = b a j) : upd (upd b a j u) a j v = b := by
  funext i k
  unfold upd
  split
  · rename_i h'; rw [h, h'.1, h'.2]
  · rfl
theorem take_back {n m : Nat} {b : Nat → Nat → Int} (hg : Good n m b) {a j x : Int} (h : takeE n m b a j x = 0) :
    getB n m (takeN n m b a j x) a j = getB n m b a j - x ∧ giveE n m (takeN n m b a j x) a j x = 0 ∧ giveN n m (takeN n m b a j x) a j x = b ∧ (0 ≤ x ∧ x ≤ getB n m b a j ∧ getB n m b a j ≤ 4611686018427387904) := by
  obtain ⟨h1, h2, h3, h4, h5, h6⟩ := take_ok h
  have hh : hasB n m a j = true := hasB_iff.2 ⟨h1, h2, h3, h4⟩
  obtain ⟨b1, b2, b3⟩ := hg.cell (a := a.toNat) (j := j.toNat) (by omega) (by omega)
  have hN : takeN n m b a j x = upd b a.toNat j.toNat (b a.toNat j.toNat - x) := by simp [takeN, h]
  have hok : giveOK n m (takeN n m b a j x) a j x = true := by
    simp only [giveOK, hh, Bool.true_and, addOK, bothB, Bool.and_eq_true, amt_iff, totB, partB, if_pos (And.intro h3 h4), hN, tot_upd (show a.toNat < n by omega)]
    unfold MA; omega
  refine ⟨by simp only [getB, hh, if_true, hN, upd_at], by simp [giveE, hok], ?_, h5, by simp only [getB, hh, if_true]; exact h6, by simp only [getB, hh, if_true]; omega⟩
  unfold giveN
  rw [if_pos hok, hN, upd_at]
  exact upd_back _ _ _ _ _ (by omega)
theorem move_back {n m : Nat} {b : Nat → Nat → Int} (hg : Good n m b) {f t j x : Int} (h : moveE n m b f t j x = 0) :
    getB n m (moveN n m b f t j x) f j = getB n m b f j - x ∧ getB n m (moveN n m b f t j x) t j = getB n m b t j + x ∧ moveE n m (moveN n m b f t j x) t f j x = 0 ∧ moveN n m (moveN n m b f t j x) t f j x = b ∧ (0 ≤ x ∧ x ≤ getB n m b f j ∧ getB n m b f j ≤ 4611686018427387904) ∧ (0 ≤ getB n m b t j ∧ getB n m b t j + x ≤ 4611686018427387904) ∧ f ≠ t := by
  obtain ⟨h1, h2, h3, h4, h5, h6, h7, h8, h9⟩ := move_ok h
  have hf : hasB n m f j = true := hasB_iff.2 ⟨h1, h2, h5, h6⟩
  have ht : hasB n m t j = true := hasB_iff.2 ⟨h3, h4, h5, h6⟩
  obtain ⟨b1, b2, b3⟩ := hg.cell (a := f.toNat) (j := j.toNat) (by omega) (by omega)
  obtain ⟨c1, c2, _⟩ := hg.cell (a := t.toNat) (j := j.toNat) (by omega) (by omega)
  have h2' := hg.two (a := f.toNat) (c := t.toNat) (j := j.toNat) (by omega) (by omega) (by omega) (by omega)
  have hx : amtB x = true := (amt_iff x).2 ⟨h7, by unfold MA; omega⟩
  have hN : moveN n m b f t j x = upd (upd b f.toNat j.toNat (b f.toNat j.toNat - x)) t.toNat j.toNat (b t.toNat j.toNat + x) := by simp [moveN, h]
  have e1 : moveN n m b f t j x f.toNat j.toNat = b f.toNat j.toNat - x := by rw [hN, upd_row (Or.inl (by omega)), upd_at]
  have e2 : moveN n m b f t j x t.toNat j.toNat = b t.toNat j.toNat + x := by rw [hN, upd_at]
  have hE : moveE n m (moveN n m b f t j x) t f j x = 0 := by
    unfold moveE
    rw [if_pos (by simp [hf, ht, hx]), if_neg (by omega), e2, if_neg (by omega)]
  refine ⟨by simp only [getB, hf, if_true, e1], by simp only [getB, ht, if_true, e2], hE, ?_, ⟨h7, by simp only [getB, hf, if_true]; exact h8, by simp only [getB, hf, if_true]; omega⟩, ⟨by simp only [getB, ht, if_true]; omega, by simp only [getB, ht, if_true]; omega⟩, h9⟩
  show (if moveE n m (moveN n m b f t j x) t f j x = 0 then _ else _) = b
  rw [if_pos hE, e1, e2, hN]
  funext i k
  unfold upd
  split
  · rename_i h'; rw [h'.1, h'.2]; omega
  · rename_i h'
    split
    · rename_i h''; rw [h''.1, h''.2]; omega
    · rename_i h''
      rfl

end Go.Proofs.Ytadejcpifabpoaa
