/- Law 12: what all its walks use. -/
import Derived.Test.YtkaciaehlibidaaGreatLl1
import Derived.Test.YtkaciaehlibidaaGreatRefw
import Derived.Test.YtkaciaehlibidaaGreatLgI
namespace Go.Proofs.YtkaciaehlibidaaGreat
open Go.RowKit
set_option linter.unusedVariables false
set_option linter.unusedSimpArgs false

theorem allB_same (es : List EV) : allB eqEV es es = true := (allB_iff eqEV eqEV_iff es es).2 rfl
theorem sameA_same (c s : Int) (es : List EV) : sameA c s [] es c s [] es = true := by
  unfold sameA
  rw [allB_same]
  simp [allB, allF]
section
variable {S S' : Nat → Prop} {W w w' : World} {n m : Nat} {E : Int} {s : LS} {T : Nat → Int} {A B tb q : Nat}
theorem own_cap {e : TypeId} {sz n c : Nat} {ao : Option Addr} {xs : List Value} (h : w.ownsRow 0 e sz (.slice ao n c) n xs) : n ≤ c ∧ c ≤ maxLen := by
  obtain ⟨_, c', h1, h2, h3⟩ := own_shape h
  simp only [Value.slice.injEq] at h1
  obtain ⟨_, _, rfl⟩ := h1
  exact ⟨h2, h3⟩
/-- Rows that lay before stay. -/
theorem rqs_stay {ro : Option Addr} {rs : List RQ} (h : RqsAt W ro rs) (hd : LD S W w n m E s T A B tb q) : ∀ w', Keeps S w w' → RqsAt w' ro rs := by
  intro w' hk
  rcases h with h | ⟨b, off, rfl, h2⟩
  · exact Or.inl h
  · refine Or.inr ⟨b, off, rfl, fun i hi j u hu => ?_⟩
    have c := h2 i hi j u hu
    have hb := World.block_lt_of_cell? W _ c
    have c1 : w.cell? ⟨b, off + i * 8 + j, none⟩ = some u := by rw [hd.bel.cell hb]; exact c
    exact (World.cell?_of_block (hk.block b (World.block_lt_of_cell? w _ c1) (fun hs => by have := hd.new b hs; have hb' : b < W.heap.size := hb; omega))).trans c1
/-- A poll. -/
theorem poll_state (h : LInv n m E s T) (p ck : Int) (hc : ck = s.ck ∨ ck = 0) : applyF n m E s p ck [] = s ∧ appR n m E s p ck [] = [] := by
  refine ⟨?_, rfl⟩
  unfold applyF
  show tickF s ck = s
  unfold tickF
  have ht := h.tick
  split
  · have : max s.ck ck = s.ck := by rcases hc with e | e <;> omega
    rw [this]
  · rfl
theorem rq_le_sum : ∀ (rs : List RQ) (r : RQ), r ∈ rs → r.h.size + r.s.size ≤ rqSum rs
  | [], r, h => by simp at h
  | x :: rs, r, h => by
    unfold rqSum
    rw [List.map_cons, List.sum_cons]
    rcases List.mem_cons.1 h with e | e
    · subst e; omega
    · have := rq_le_sum rs r e
      unfold rqSum at this
      omega
theorem rq_sizes {rs : List RQ} (h : fewRq rs = true) : ∀ r ∈ rs, r.h.size + r.s.size ≤ 1000000000 := fun r hr => by
  have h1 := rq_le_sum rs r hr
  have h2 := (fewRq_facts _ h).2
  omega
theorem evs_len (s : LS) : s.evs.length = s.es.length := by unfold LS.evs; rw [List.length_map]
theorem drop_len (s : LS) (k : Int) : (dropF s.evs k).length ≤ s.es.length := by
  unfold dropF
  split
  · rw [List.length_drop, evs_len]; omega
  · simp
end

end Go.Proofs.YtkaciaehlibidaaGreat
