/- slices.Chunk as an iterator: all the blocks, in order; whatever the loop's body does. -/
import Derived.Test.YtbhoakohpfdeoaaGreatSha8
import Derived.RangeFuncNested
import Derived.RangeFuncBound
import Derived.RangeFuncCalls
import Derived.RangeFuncLeaves
import Derived.RangeFuncFrom
import Derived.Shelf.Abstract
import Derived.Shelf.RegionOpen
import Derived.OwnWalkIn
import Derived.TacticsInMore
import Derived.LoopNIn
import Derived.LoopIn
namespace Go.Proofs.YtbhoakohpfdeoaaGreat
open Go.RowKit Go.Shelf
set_option linter.unusedVariables false
set_option linter.unusedSimpArgs false
attribute [local go_sem] Oper.semAt_some

/-- What a round keeps: two boxes. -/
def KpB (Bs Bn : Nat) (W W' : World) : Prop := W'.heap[Bs]? = W.heap[Bs]? ∧ W'.heap[Bn]? = W.heap[Bn]?
theorem KpB.trans {Bs Bn : Nat} {A B C : World} (h : KpB Bs Bn A B) (k : KpB Bs Bn B C) : KpB Bs Bn A C := ⟨k.1.trans h.1, k.2.trans h.2⟩
theorem fin_take (N k : Nat) (h : k < N) : (List.finRange N).take (k + 1) = (List.finRange N).take k ++ [⟨k, h⟩] := by
  rw [List.take_succ_eq_append_getElem (by simp; exact h)]
  simp
def chunkV (g off k : Nat) : Value := .slice (some ⟨g, off + 64 * k, none⟩) 64 64

set_option maxRecDepth 100000 in
set_option maxHeartbeats 2000000 in
theorem chunk1_in (n : Nat) (hn : 1 ≤ n) (l Bs Bn g off cap len N : Nat) (hlen : len = 64 * N) (hcap : len ≤ cap) (hreach : len ≤ 140737488351232) (J Jx : List (Fin N) → World → Prop)
    (hY : ∀ pre x W, J pre W → pre.length < N → YieldAt Fence.wide (n - 1) Tryz.prog l #[chunkV g off x.val] W fun e W' =>
      (e = .returned (.bool true) ∧ J (pre ++ [x]) W' ∧ KpB Bs Bn W W') ∨ (e = .returned (.bool false) ∧ Jx (pre ++ [x]) W'))
    (W : World) (hJd : ∀ s A, J s A → J s A.drew) (hBs : W.cell? ⟨Bs, 0, none⟩ = some (.slice (some ⟨g, off, none⟩) len cap)) (hBn : W.cell? ⟨Bn, 0, none⟩ = some (.int .i64 64)) (h0 : J [] W) :
    CallsIn Fence.wide n Tryz.prog 77 #[.func (.yield l) #[] #[], .pointer (some ⟨Bs, 0, none⟩), .pointer (some ⟨Bn, 0, none⟩)] W fun e W' => (∃ v, e = .returned v) ∧
      ((∃ ys, ys = List.finRange N ∧ J ys W') ∨ (∃ pre, (∃ k, k ≤ N ∧ pre = (List.finRange N).take k) ∧ Jx pre W')) := by
  refine callsIn_of_wp Tryz.func77 rfl trivial ?_ rfl
  simp only [Tryz.ntmps77, List.size_toArray, List.length_cons, List.length_nil, Nat.reduceAdd, Nat.reduceSub, Array.replicate_succ, Array.replicate_zero, List.push_toArray, List.append_toArray, List.nil_append, List.cons_append]
  gi_wp2
  gi_loopw [4] (fun i wr => ∃ k : Nat, k ≤ N ∧ i = .int .i64 ((64 * k : Nat) : Int) ∧ J ((List.finRange N).take k) wr ∧ KpB Bs Bn W wr)
    (fun i _ => len - (intOf i).toNat)
  case atStart => exact ⟨0, Nat.zero_le _, rfl, h0, rfl, rfl⟩
  case round =>
    obtain ⟨k, hk, rfl, hJs, hkb⟩ := hrel
    have c1 : wr.cell? ⟨Bs, 0, none⟩ = some (.slice (some ⟨g, off, none⟩) len cap) := (World.cell?_of_block (a := ⟨Bs, 0, none⟩) hkb.1).trans hBs
    have c2 : wr.cell? ⟨Bn, 0, none⟩ = some (.int .i64 64) := (World.cell?_of_block (a := ⟨Bn, 0, none⟩) hkb.2).trans hBn
    by_cases hlt : k < N
    · have e1 : ((64 * k : Nat) : Int).toNat = 64 * k := by omega
      have b0 : (0 : Int) ≤ ((64 * k : Nat) : Int) := by omega
      have b1 : ((64 * k : Nat) : Int) < (len : Int) := by omega
      have b2 : ((64 * k : Nat) : Int) ≤ (len : Int) := by omega
      have b3 : 64 * k ≤ len := by omega
      have b4 : len ≤ cap := hcap
      have b5 : ¬ cap = 64 * k := by omega
      generalize hK : 64 * k = K at *
      have HLEN := Lib.hid hlen
      have HK := Lib.hid hK
      clear hlen hK
      gi_wp2
      refine wpIn_wide.2 ?_
      refine wp_region_held_drew (S := fun w' => w'.cell? ⟨Bs, 0, none⟩ = some (.slice (some ⟨g, off, none⟩) len cap) ∧ w'.cell? ⟨Bn, 0, none⟩ = some (.int .i64 64)) (by kernel_rfl) ?_ (fun hHeld => ?_)
      · exact ⟨c1, c2⟩
      refine take_at (i := 0) (d := 13) (v := ?_) rfl rfl (by kernel_rfl) (by kernel_rfl) (by kernel_rfl) (fun _ _ _ h => h) (Or.inl ⟨by rfl, by intro w' hSw; (try dsimp only at hSw); go_simp; try with_reducible rfl⟩) (by assumption) ?_
      simp only [List.setIfInBounds_toArray, List.set_cons_zero, List.set_cons_succ]
      refine take_at (i := 1) (d := 14) (v := ?_) rfl rfl (by kernel_rfl) (by kernel_rfl) (by kernel_rfl) (fun _ _ _ h => h) (Or.inl ⟨by rfl, by intro w' hSw; (try dsimp only at hSw); go_simp; try with_reducible rfl⟩) (by assumption) ?_
      simp only [List.setIfInBounds_toArray, List.set_cons_zero, List.set_cons_succ]
      refine take_at (i := 2) (d := 15) (v := ?_) rfl rfl (by kernel_rfl) (by kernel_rfl) (by kernel_rfl) (fun _ _ _ h => h) (Or.inl ⟨by rfl, by intro w' hSw; (try dsimp only at hSw); go_simp; try with_reducible rfl⟩) (by assumption) ?_
      simp only [List.setIfInBounds_toArray, List.set_cons_zero, List.set_cons_succ]
      refine take_at (i := 3) (d := 16) (v := ?_) rfl rfl (by kernel_rfl) (by kernel_rfl) (by kernel_rfl) (fun _ _ _ h => h) (Or.inl ⟨by rfl, by intro w' hSw; (try dsimp only at hSw); go_simp; try with_reducible rfl⟩) (by assumption) ?_
      simp only [List.setIfInBounds_toArray, List.set_cons_zero, List.set_cons_succ]
      refine take_at (i := 4) (d := 17) (v := ?_) rfl rfl (by kernel_rfl) (by kernel_rfl) (by kernel_rfl) (fun _ _ _ h => h) (Or.inl ⟨by rfl, by intro w' hSw; (try dsimp only at hSw); go_simp; try with_reducible rfl⟩) (by assumption) ?_
      simp only [List.setIfInBounds_toArray, List.set_cons_zero, List.set_cons_succ]
      refine take_at (i := 5) (d := 18) (v := ?_) rfl rfl (by kernel_rfl) (by kernel_rfl) (by kernel_rfl) (fun _ _ _ h => h) (Or.inl ⟨by rfl, by intro w' hSw; (try dsimp only at hSw); go_simp; try with_reducible rfl⟩) (by assumption) ?_
      simp only [List.setIfInBounds_toArray, List.set_cons_zero, List.set_cons_succ]
      refine take_at (i := 6) (d := 5) (v := ?_) rfl rfl (by kernel_rfl) (by kernel_rfl) (by kernel_rfl) (fun _ _ _ h => h) (Or.inl ⟨by rfl, by intro w' hSw; (try dsimp only at hSw); go_simp; try with_reducible rfl⟩) (by assumption) ?_
      simp only [List.setIfInBounds_toArray, List.set_cons_zero, List.set_cons_succ]
      refine wpAnyH_done (by kernel_rfl) ?_ _
      have b6 : ¬ ((len - K : Nat) : Int) < 64 := by have := HLEN.out; have := HK.out; omega
      simp only [if_neg b6]
      obtain ⟨fn, tmps, assign, body, hy, hR⟩ := hY ((List.finRange N).take k) ⟨k, hlt⟩ wr.drew (hJd _ _ hJs) (by simp; omega)
      unfold chunkV at hy
      rw [HK.out] at hy
      have b7 : ((K : Int) + 64) ≤ (cap : Int) := by have := HLEN.out; have := HK.out; omega
      have b8 : K + 64 ≤ cap := by omega
      have e2 : ((K : Int) + 64).toNat = K + 64 := by omega
      have e3 : wrap64 ((K : Int) + 64) = (K : Int) + 64 := by unfold wrap64; omega
      obtain ⟨c1, c2⟩ := hHeld
      have e4 : K + 64 - K = 64 := by omega
      have b9 : (K : Int) ≤ (K : Int) + 64 := by omega
      gi_wp2
      refine hR.mono ?_
      rintro e W3 (⟨rfl, hJ3, hk3⟩ | ⟨rfl, hJx3⟩)
      · have hk4 : KpB Bs Bn W W3 := hkb.trans (KpB.trans ⟨rfl, rfl⟩ hk3)
        have c3 : W3.cell? ⟨Bn, 0, none⟩ = some (.int .i64 64) := (World.cell?_of_block (a := ⟨Bn, 0, none⟩) hk4.2).trans hBn
        gi_wp2
        go_roundw
        case rel => exact ⟨k + 1, by omega, by have := HK.out; first | rfl | (congr 1; omega), by rw [fin_take N k hlt]; exact hJ3, hk4⟩
        case measure => simp [intOf]; omega
      · gi_wp2
        refine bodyPost_ret (results_none rfl _ _ _) rfl ?_
        exact ⟨⟨_, rfl⟩, .inr ⟨_, ⟨k + 1, by omega, (fin_take N k hlt).symm⟩, hJx3⟩⟩
    · obtain rfl : k = N := by omega
      have b1 : ¬ ((64 * k : Nat) : Int) < (len : Int) := by omega
      generalize hK : 64 * k = K at *
      clear hK
      gi_wp2
      go_end0
      exact ⟨⟨_, rfl⟩, .inl (by rw [List.take_of_length_le (by simp)] at hJs; exact hJs)⟩

/-- slices.Chunk(b, 64) of a slice of 64 N bytes, N above 0. -/
theorem chunk_stops (n : Nat) (hn : 1 ≤ n) (Bs Bn g off cap len N : Nat) (hlen : len = 64 * N) (hcap : len ≤ cap) (hreach : len ≤ 140737488351232) (w : World) (hBsl : Bs < w.heap.size) (hBnl : Bn < w.heap.size)
    (hBs : w.cell? ⟨Bs, 0, none⟩ = some (.slice (some ⟨g, off, none⟩) len cap)) (hBn : w.cell? ⟨Bn, 0, none⟩ = some (.int .i64 64)) :
    SeqStopsK Fence.wide n Tryz.prog 77 #[.pointer (some ⟨Bs, 0, none⟩), .pointer (some ⟨Bn, 0, none⟩)] (fun k : Fin N => #[chunkV g off k.val]) (KpB Bs Bn) (fun ys => ys = List.finRange N) (fun pre => ∃ k, k ≤ N ∧ pre = (List.finRange N).take k) N w := fun l J Jx W hW hJ _ hY h0 => by
  have c1 := (hW.cell (p := ⟨Bs, 0, none⟩) hBsl).trans hBs
  have c2 := (hW.cell (p := ⟨Bn, 0, none⟩) hBnl).trans hBn
  exact chunk1_in n hn l Bs Bn g off cap len N hlen hcap hreach J Jx hY W (fun s A hs => hJ s A A.drew none hs ⟨rfl, rfl, rfl, Nat.le_refl _, fun _ _ _ => rfl⟩ (fun r e => by cases e)) c1 c2 h0

set_option maxHeartbeats 1000000 in
theorem chunk_any (a : Option Addr) (len cap : Nat) (w : World) :
    Calls Tryz.prog 70 #[.slice a len cap, .int .i64 64] w fun e w' => e = .returned (.func (.func 77) #[] #[.pointer (some ⟨w.heap.size, 0, none⟩), .pointer (some ⟨w.heap.size + 1, 0, none⟩)]) ∧ w' = (w.alloc (.cells #[.slice a len cap] 68)).alloc (.cells #[.int .i64 64] 3) := by
  have hmf : ∀ (fn : Fn) (first cap : Array Value) (w : World), (Instr.makeFunc fn first cap).run Tryz.prog w = .ok (.func fn first cap) w := fun _ _ _ _ => rfl
  go_enter Tryz.func70, Tryz.ntmps70
  go_wp2
  go_ret
  exact ⟨rfl, rfl⟩

end Go.Proofs.YtbhoakohpfdeoaaGreat
