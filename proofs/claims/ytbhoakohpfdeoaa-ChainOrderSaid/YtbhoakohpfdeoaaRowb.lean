/- Bytes of one's own: one of them read, one of them set. -/
import Derived.Test.YtbhoakohpfdeoaaHeap
namespace Go.Proofs.Ytbhoakohpfdeoaa
open Go.RowKit
set_option linter.unusedVariables false
set_option linter.unusedSimpArgs false

/-- Bytes of one's own, one of them set. -/
theorem row_set {w : World} {g n cap : Nat} {zs : List Int} (h : w.ownsRow 0 5 1 (.slice (some ⟨g, 0, none⟩) n cap) n (zs.map (Value.int .u8))) (i : Nat) (v : Int) :
    (w.setCell ⟨g, i, none⟩ (.int .u8 v)).ownsRow 0 5 1 (.slice (some ⟨g, 0, none⟩) n cap) n ((zs.set i v).map (Value.int .u8)) := by
  have hl : zs.length = n := (owns_at h).1
  refine ⟨by simp [hl], ?_⟩
  rcases h.2 with ⟨hv, _⟩ | ⟨g', cap', cur, hv, hb, hh, hn, hm, hs, ht⟩
  · cases hv
  · simp only [Value.slice.injEq, Option.some.injEq, Addr.mk.injEq] at hv
    obtain ⟨⟨rfl, _⟩, _, rfl⟩ := hv
    refine Or.inr ⟨g, cap, cur.setIfInBounds i (.int .u8 v), rfl, hb, blk_set hh i _, hn, hm, by simpa using hs, ?_⟩
    rw [Array.toList_setIfInBounds, List.take_set, ht, List.map_set]
theorem row_cell {w : World} {g n cap : Nat} {zs : List Int} (h : w.ownsRow 0 5 1 (.slice (some ⟨g, 0, none⟩) n cap) n (zs.map (Value.int .u8))) (i : Nat) (hi : i < n) :
    w.cell? ⟨g, i, none⟩ = some (.int .u8 (zs.getD i 0)) ∧ w.frozen? ⟨g, i, none⟩ = false := by
  have hl : zs.length = n := (owns_at h).1
  refine ⟨?_, ?_⟩
  · have hc := h.cells (g := g) rfl i (.int .u8 (zs.getD i 0)) (by simp [List.getD, hl, hi])
    rwa [addr_add, Nat.zero_add] at hc
  · rcases h.2 with ⟨hv, _⟩ | ⟨g', cap', cur, hv, hb, hh, hn, hm, hs, ht⟩
    · cases hv
    · simp only [Value.slice.injEq, Option.some.injEq, Addr.mk.injEq] at hv
      obtain ⟨⟨rfl, _⟩, _, rfl⟩ := hv
      exact blk_frozen hh i
theorem row_addr {w : World} {ao : Option Addr} {n cap : Nat} {zs : List Int} (h : w.ownsRow 0 5 1 (.slice ao n cap) n (zs.map (Value.int .u8))) (h0 : 0 < n) : ∃ g, ao = some ⟨g, 0, none⟩ := by
  rcases h.2 with ⟨hv, hn⟩ | ⟨g', cap', cur, hv, _⟩
  · omega
  · simp only [Value.slice.injEq] at hv
    exact ⟨g', hv.1⟩
theorem inB_set {zs : List Int} (h : ∀ z ∈ zs, 0 ≤ z ∧ z ≤ 255) (i : Nat) {v : Int} (hv : 0 ≤ v ∧ v ≤ 255) : ∀ z ∈ zs.set i v, 0 ≤ z ∧ z ≤ 255 := fun z hz => by
  rcases List.mem_or_eq_of_mem_set hz with e | e
  · exact h z e
  · rw [e]; exact hv

end Go.Proofs.Ytbhoakohpfdeoaa
