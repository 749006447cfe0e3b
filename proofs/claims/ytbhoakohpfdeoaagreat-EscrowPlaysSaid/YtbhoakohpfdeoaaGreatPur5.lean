/- Contracts of purse.New and of chapter 9's example. -/
import Derived.Test.YtbhoakohpfdeoaaGreatPur4
namespace Go.Proofs.YtbhoakohpfdeoaaGreat
open Go.RowKit
set_option linter.unusedVariables false

theorem PAt.mono {T : TypeId} {w : World} {p n m : Nat} {S S' : Nat → Prop} {b : Nat → Nat → Int} (h : PAt T w p S n m b) (hs : ∀ k, S k → S' k) (hl : ∀ k, S' k → k < w.heap.size) : PAt T w p S' n m b := by
  obtain ⟨L, lcap, G, C, h1, h2, h3⟩ := h
  exact ⟨L, lcap, G, C, h1, fun k hk => hs k (h2 k hk), hl⟩
theorem PNew.from_ {T : TypeId} {w0 w w' : World} {q n m : Nat} {b : Nat → Nat → Int} (h : PNew T w n m b q w') (hb : Below w0.heap.size w0 w) : PNew T w0 n m b q w' :=
  ⟨h.1.mono (fun k hk => ⟨by have := hb.size; omega, hk.2⟩) (fun k hk => hk.2), hb.trans (h.2.mono hb.size)⟩

set_option maxHeartbeats 1000000 in
theorem new_no (ao : Option Addr) (bs : List ISl) (n cap : Nat) (w : World) (hn : bs.length = n) (h : IntsList w ao bs) (hm : mayF bs = false) :
    Calls Tryz.prog 29 #[.slice ao n cap] w fun e w' => e = .returned (.tuple #[.pointer none, .int .i64 1]) ∧ Below w.heap.size w w' := by
  have HM := Lib.hid (may_any ao bs n cap w hn h)
  have HF := Lib.hid hm
  clear hn h hm
  go_enter Tryz.func29, Tryz.ntmps29
  go_wp2_with fail
  refine HM.out.mono ?_
  rintro e w1 ⟨rfl, hb⟩
  rw [HF.out]
  have HB := Lib.hid hb
  clear hb
  go_wp2
  go_ret2
  exact ⟨rfl, HB.out⟩

set_option maxHeartbeats 1000000 in
theorem new_yes (ao : Option Addr) (bs : List ISl) (n cap m : Nat) (w : World) (hn : bs.length = n) (h : IntsList w ao bs) (hm : mayF bs = true) (hm2 : (bs.getD 0 default).zs.length = m) :
    Calls Tryz.prog 29 #[.slice ao n cap] w fun e w' => ∃ q, e = .returned (.tuple #[.pointer (some ⟨q, 0, none⟩), .int .i64 0]) ∧ PNew 75 w n m (balOf bs) q w' := by
  have HM := Lib.hid (may_any ao bs n cap w hn h)
  have HF := Lib.hid hm
  obtain ⟨hg, hl⟩ := mayF_good hm
  rw [hm2] at hl hg
  rw [hn] at hg
  have HL := Lib.hid hl
  have h2 := hg.n2
  have h16 := hg.n16
  have h1 := hg.m1
  have h4 := hg.m4
  have HN := Lib.hid hn
  have HH := Lib.hid h
  clear hn h hm hl hg hm2
  go_enter Tryz.func29, Tryz.ntmps29
  go_wp2_with fail
  refine HM.out.mono ?_
  rintro e w1 ⟨rfl, hb⟩
  rw [HF.out]
  have hb2 : Below w.heap.size w (w1.alloc (.cells #[.slice ao n cap] 75)) := hb.alloc hb.size _
  have HB := Lib.hid hb2
  have HI := Lib.hid (HH.out.below hb2)
  clear hb hb2
  go_wp2_with fail
  refine (copy_any w1.heap.size ao bs n cap m _ (by simp) HI.out HN.out HL.out (by omega) (by omega) (by omega) (by omega)).mono ?_
  rintro e w2 ⟨q, rfl, hq⟩
  have HQ := Lib.hid (hq.from_ HB.out)
  clear hq
  go_wp2
  go_ret2
  exact ⟨q, rfl, HQ.out⟩

def rows2 (h : Nat) (a b : Int) : List ISl := [⟨some ⟨h, 0, none⟩, [a], 1⟩, ⟨some ⟨h + 1, 0, none⟩, [b], 1⟩]
def world2 (w : World) (a b : Int) : World := ((w.alloc (.cells #[.int .i64 a] 3)).alloc (.cells #[.int .i64 b] 3)).alloc (.cells #[.slice (some ⟨w.heap.size, 0, none⟩) 1 1, .slice (some ⟨w.heap.size + 1, 0, none⟩) 1 1] 54)
theorem world2_below (w : World) (a b : Int) : Below w.heap.size w (world2 w a b) := (((Below.refl _ _).alloc (Nat.le_refl _) _).alloc (by simp) _).alloc (by simp; omega) _
theorem world2_rows (w : World) (a b : Int) (ha : -9223372036854775808 ≤ a ∧ a ≤ 9223372036854775807) (hb : -9223372036854775808 ≤ b ∧ b ≤ 9223372036854775807) : IntsList (world2 w a b) (some ⟨w.heap.size + 2, 0, none⟩) (rows2 w.heap.size a b) := by
  have s1 : (w.alloc (.cells #[.int .i64 a] 3)).heap.size = w.heap.size + 1 := by simp
  have s2 : ((w.alloc (.cells #[.int .i64 a] 3)).alloc (.cells #[.int .i64 b] 3)).heap.size = w.heap.size + 2 := by simp
  have e0 : (world2 w a b).heap[w.heap.size]? = some (.cells #[.int .i64 a] 3 (0, 0)) := (Below.heap_alloc _ _ _ (by omega)).trans ((Below.heap_alloc _ _ _ (by omega)).trans (heap_alloc_new w _))
  have e1 : (world2 w a b).heap[w.heap.size + 1]? = some (.cells #[.int .i64 b] 3 (0, 0)) := (Below.heap_alloc _ _ _ (by omega)).trans (by rw [← s1]; exact heap_alloc_new _ _)
  have e2 : (world2 w a b).heap[w.heap.size + 2]? = some (.cells #[.slice (some ⟨w.heap.size, 0, none⟩) 1 1, .slice (some ⟨w.heap.size + 1, 0, none⟩) 1 1] 54 (0, 0)) := by rw [← s2]; exact heap_alloc_new _ _
  refine ⟨Or.inr ⟨_, _, rfl, fun i hi => ?_⟩, fun x hx => ?_⟩
  · rw [blk_cell e2]
    match i, hi with
    | 0, _ => rfl
    | 1, _ => rfl
  · simp only [rows2, List.mem_cons, List.not_mem_nil, or_false] at hx
    rcases hx with rfl | rfl
    · exact ⟨Or.inr ⟨_, _, rfl, fun i hi => by rw [blk_cell e0]; match i, hi with | 0, _ => rfl⟩, fun z hz => by simp at hz; subst hz; exact ha, Nat.le_refl _, by show 1 ≤ maxLen; decide⟩
    · exact ⟨Or.inr ⟨_, _, rfl, fun i hi => by rw [blk_cell e1]; match i, hi with | 0, _ => rfl⟩, fun z hz => by simp at hz; subst hz; exact hb, Nat.le_refl _, by show 1 ≤ maxLen; decide⟩
def ex9 (h : Nat) : List ISl := rows2 h 5 0
theorem ex9_may (h : Nat) : mayF (ex9 h) = true := by kernel_rfl
theorem ex9_take (h : Nat) : takeE 2 1 (balOf (ex9 h)) 0 0 6 = 7 ∧ takeN 2 1 (balOf (ex9 h)) 0 0 6 = balOf (ex9 h) := ⟨by kernel_rfl, by kernel_rfl⟩
theorem ex9_move (h : Nat) : moveE 2 1 (balOf (ex9 h)) 0 1 0 5 = 0 ∧ getB 2 1 (moveN 2 1 (balOf (ex9 h)) 0 1 0 5) 1 0 = 5 := ⟨by kernel_rfl, by kernel_rfl⟩


end Go.Proofs.YtbhoakohpfdeoaaGreat
