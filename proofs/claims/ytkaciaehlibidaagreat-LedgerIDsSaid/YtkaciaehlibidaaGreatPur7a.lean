/- Contract of cfllaw9.Few; purses of a law. -/
import Derived.Test.YtkaciaehlibidaaGreatLgG
import Derived.Test.YtkaciaehlibidaaGreatLgD
namespace Go.Proofs.YtkaciaehlibidaaGreat
open Go.RowKit
set_option linter.unusedVariables false

set_option maxHeartbeats 1000000 in
theorem few9_any (ao : Option Addr) (bs : List ISl) (n cap : Nat) (w : World) (hn : bs.length = n) (h : IntsList w ao bs) (hcap : n ≤ cap) (hm : cap ≤ maxLen) :
    Calls Tryz.prog 27 #[.slice ao n cap] w fun e w' => e = .returned (.bool (fewB (bs.map (fun o => o.zs.length)) 100 1000)) ∧ w = w' := by
  have HB := Lib.hid h
  have HN := Lib.hid hn
  obtain ⟨ls, hls⟩ : ∃ ls, ls = (bs.map (fun o => o.zs.length)).map (fun x => min x (1000 + 1)) := ⟨_, rfl⟩
  have hll : ls.length = n := by rw [hls]; simp [hn]
  have hmax : ∀ k, (ls.take k).sum ≤ n * (1000 + 1) ∧ (ls.take k).sum ≤ k * (1000 + 1) := by
    intro k
    rw [hls, ← List.map_take]
    have := sum_min_bound ((bs.map (fun o => o.zs.length)).take k) 1000
    have e : ((bs.map (fun o => o.zs.length)).take k).length ≤ n := by simp [hn]; omega
    have e2 : ((bs.map (fun o => o.zs.length)).take k).length ≤ k := by simp; omega
    exact ⟨Nat.le_trans this (Nat.mul_le_mul_right _ e), Nat.le_trans this (Nat.mul_le_mul_right _ e2)⟩
  have hb : ∀ k, k ≤ 100 → (ls.take k).sum ≤ 1000001000 := by
    intro k hk
    have := (hmax k).2
    have h3 : k * (1000 + 1) ≤ 1000 * 1000001 := Nat.mul_le_mul (by omega) (by omega)
    omega
  have HLS := Lib.hid hls
  have HLL := Lib.hid hll
  have HBD := Lib.hid hb
  unfold maxLen at hm
  clear h hn hls hll hmax hb
  go_enter Tryz.func27, Tryz.ntmps27
  go_wp2_with fail
  go_loop [3, 4] (fun t i => ∃ k : Nat, k ≤ n ∧ k ≤ 100 ∧ i = .int .i64 k ∧ t = .int .i64 ((ls.take k).sum : Nat)) (fun _ i => n - (intOf i).toNat)
  case atStart => exact ⟨0, Nat.zero_le _, Nat.zero_le _, rfl, rfl⟩
  case round =>
    obtain ⟨k, hk, hk2, rfl, rfl⟩ := hrel
    have hbd := HBD.out k hk2
    by_cases hlt : k < n
    · by_cases hlt2 : k < 100
      · have hkl : k < ls.length := by rw [HLL.out]; exact hlt
        have hkb : k < bs.length := by rw [HN.out]; exact hlt
        obtain ⟨b, off, ha, hc⟩ := il_cell HB.out k hkb
        have HS := Lib.hid (sum_take_succ ls k hkl)
        have hmin : ls[k] = min bs[k].zs.length (1000 + 1) := by simp [HLS.out]
        have HMIN := Lib.hid hmin
        generalize ls[k] = m at *
        generalize bs[k].zs.length = z at *
        clear hmin hkl
        subst ha
        generalize (ls.take k).sum = s at *
        have i1 : (k : Int) < (n : Int) := by omega
        have i2 : (k : Int) < (100 : Int) := by omega
        go_wp2
        go_round
        case rel => exact ⟨k + 1, by omega, by omega, by go_num, by rw [HS.out, HMIN.out]; congr 1; split <;> omega⟩
        case measure => simp [intOf]; omega
      · obtain rfl : 100 = k := by omega
        have HF := Lib.hid (show fewB (bs.map (fun o => o.zs.length)) 100 1000 = false by simp [fewB, HN.out]; omega)
        have i1 : (100 : Int) < (n : Int) := by omega
        have i2 : ¬ (n : Int) ≤ (100 : Int) := by omega
        clear hlt2
        go_wp2
        go_ret
        exact ⟨ret_bool HF.out.symm, rfl⟩
    · obtain rfl : k = n := by omega
      have i2 : (k : Int) ≤ (100 : Int) := by omega
      have HT : Hid ((ls.take k).sum = (((bs.map (fun o => o.zs.length)).take 100).map (fun x => min x (1000 + 1))).sum) := Lib.hid (by
        rw [List.take_of_length_le (by rw [HLL.out]; exact Nat.le_refl _), HLS.out, List.take_of_length_le (l := bs.map _) (by simp [HN.out]; omega)])
      by_cases hs : (ls.take k).sum ≤ 1000
      · have HF := Lib.hid (show fewB (bs.map (fun o => o.zs.length)) 100 1000 = true by
          unfold fewB
          rw [← HT.out]
          simp [HN.out]; omega)
        generalize (ls.take k).sum = s at *
        have i3 : (s : Int) ≤ (1000 : Int) := by omega
        clear hlt
        go_wp2
        go_ret
        exact ⟨ret_bool HF.out.symm, rfl⟩
      · have HF := Lib.hid (show fewB (bs.map (fun o => o.zs.length)) 100 1000 = false by
          unfold fewB
          rw [← HT.out]
          simp [HN.out]; omega)
        generalize (ls.take k).sum = s at *
        have i3 : ¬ (s : Int) ≤ (1000 : Int) := by omega
        clear hlt
        go_wp2
        go_ret
        exact ⟨ret_bool HF.out.symm, rfl⟩


/-- A purse of a law that began in W. -/
def LP (T : TypeId) (W w : World) (S : Nat → Prop) (q n m : Nat) (b : Nat → Nat → Int) : Prop := PAt T w q S n m b ∧ Below W.heap.size W w ∧ ∀ k, S k → W.heap.size ≤ k
section
variable {T : TypeId} {W w w' : World} {S : Nat → Prop} {q n m : Nat} {b b' : Nat → Nat → Int}
theorem LP.base (h : LP T W w S q n m b) : Below W.heap.size W w := h.2.1
theorem LP.below (h : LP T W w S q n m b) (hb : Below w.heap.size w w') : LP T W w' S q n m b := ⟨h.1.below hb, h.2.1.trans (hb.mono h.2.1.size), h.2.2⟩
theorem LP.drew (h : LP T W w S q n m b) : LP T W w.drew S q n m b := h.below ((Keeps.refl (fun _ => False) w).drew.below (Nat.le_refl _) (fun _ f => f.elim))
theorem LP.post (h : LP T W w S q n m b) (hp : PPost T w q S n m b' w') : LP T W w' S q n m b' := ⟨hp.1, h.2.1.trans (hp.2.below h.2.1.size h.2.2), h.2.2⟩
theorem LP.new (h : PNew T w n m b q w') (hb : Below W.heap.size W w) : LP T W w' (fun k => W.heap.size ≤ k ∧ k < w'.heap.size) q n m b := ⟨(h.from_ hb).1, (h.from_ hb).2, fun k hk => hk.1⟩
end

section
variable {W w : World} {S : Nat → Prop} {q n m : Nat} {b : Nat → Nat → Int}
theorem LP.has (h : LP 133 W w S q n m b) (a j : Int) : Calls Tryz.prog 104 #[.pointer (some ⟨q, 0, none⟩), .int .i64 a, .int .i64 j] w fun e w' => e = .returned (.int .i64 (getB n m b a j)) ∧ w = w' := pur_has q n m S b w h.1 a j
theorem LP.total (h : LP 133 W w S q n m b) (hg : Good n m b) (j : Int) : Calls Tryz.prog 67 #[.pointer (some ⟨q, 0, none⟩), .int .i64 j] w fun e w' => e = .returned (.int .i64 (totB n m b j)) ∧ w = w' := pur_total q n m S b w h.1 hg j
theorem LP.give (h : LP 133 W w S q n m b) (hg : Good n m b) (a j x : Int) : Calls Tryz.prog 121 #[.pointer (some ⟨q, 0, none⟩), .int .i64 a, .int .i64 j, .int .i64 x] w fun e w' => e = .returned (.int .i64 (giveE n m b a j x)) ∧ LP 133 W w' S q n m (giveN n m b a j x) :=
  (pur_give q n m S b w h.1 hg a j x).mono fun _ _ ⟨a, b⟩ => ⟨a, h.post b⟩
theorem LP.take (h : LP 133 W w S q n m b) (hg : Good n m b) (a j x : Int) : Calls Tryz.prog 101 #[.pointer (some ⟨q, 0, none⟩), .int .i64 a, .int .i64 j, .int .i64 x] w fun e w' => e = .returned (.int .i64 (takeE n m b a j x)) ∧ LP 133 W w' S q n m (takeN n m b a j x) :=
  (pur_take q n m S b w h.1 hg a j x).mono fun _ _ ⟨a, b⟩ => ⟨a, h.post b⟩
theorem LP.move (h : LP 133 W w S q n m b) (hg : Good n m b) (f t j x : Int) : Calls Tryz.prog 62 #[.pointer (some ⟨q, 0, none⟩), .int .i64 f, .int .i64 t, .int .i64 j, .int .i64 x] w fun e w' => e = .returned (.int .i64 (moveE n m b f t j x)) ∧ LP 133 W w' S q n m (moveN n m b f t j x) :=
  (pur_move q n m S b w h.1 hg f t j x).mono fun _ _ ⟨a, b⟩ => ⟨a, h.post b⟩
end

end Go.Proofs.YtkaciaehlibidaaGreat
