/- A hash under way since a world; a row of noughts. -/
import Derived.Test.YtbhoakohpfdeoaaShaQ
import Derived.Deep.OwnRows
namespace Go.Proofs.Ytbhoakohpfdeoaa
open Go.RowKit
set_option linter.unusedVariables false
set_option linter.unusedSimpArgs false

/-- A hash in block p over the table in tb, both there in w0; its row is younger than w0; nothing else has turned. -/
def HashIn (w0 : World) (p tb : Nat) (all : List Int) (w : World) : Prop :=
  ∃ v, TabOk w tb ∧ HashAt w p tb all v ∧ Keeps (fun i => i = tb ∨ i = p) w0 w ∧ (∀ g, v.ownBlock = some g → w0.heap.size ≤ g) ∧ p < w0.heap.size ∧ tb < w0.heap.size
theorem HashIn.tab {w0 w : World} {p tb : Nat} {all : List Int} (h : HashIn w0 p tb all w) : TabOk w tb := by obtain ⟨_, h, _⟩ := h; exact h
theorem HashIn.keeps {w0 w : World} {p tb : Nat} {all : List Int} (h : HashIn w0 p tb all w) : Keeps (fun i => i = tb ∨ i = p) w0 w := by obtain ⟨_, _, _, h, _⟩ := h; exact h
theorem HashIn.mk {w w' : World} {tb : Nat} (ht : TabOk w' tb) (hh : HashAt w' w.heap.size tb [] (.slice none 0 0)) : HashIn w' w.heap.size tb [] w' :=
  ⟨_, ht, hh, Keeps.refl _ _, (fun g (hg : (Value.slice none 0 0).ownBlock = some g) => by cases hg), hh.lt.1, ht.lt⟩
/-- What else turns, but the hash's own, does not matter. -/
theorem HashIn.keep {w0 w w' : World} {p tb : Nat} {all : List Int} {S : Nat → Prop} (h : HashIn w0 p tb all w) (hk : Keeps S w w') (ht : TabOk w' tb) (hS : ∀ i, S i → i = tb ∨ w.heap.size ≤ i) : HashIn w0 p tb all w' := by
  obtain ⟨v, h1, h2, h3, h4, h5, h6⟩ := h
  have hpt : p ≠ tb := h2.2.2.2.2.1
  refine ⟨v, ht, h2.keep hk (fun e => ?_) (fun g hg e => ?_), h3.trans hk (fun i hi => ?_), h4, h5, h6⟩
  · rcases hS p e with h | h
    · exact hpt h
    · have := h2.lt.1; omega
  · rcases hS g e with h | h
    · exact h2.2.2.2.1 (by rw [hg, h])
    · have := h2.lt.2 g hg; omega
  · rcases hS i hi with h | h
    · exact Or.inl (Or.inl h)
    · exact Or.inr (Nat.le_trans h3.size h)
theorem HashIn.below {w0 w w' : World} {p tb : Nat} {all : List Int} (h : HashIn w0 p tb all w) (hb : Below w.heap.size w w') : HashIn w0 p tb all w' :=
  h.keep (S := fun _ => False) (Keeps.of_below hb) (h.tab.below hb) (fun _ h => h.elim)
theorem hashIn_write {w0 w : World} {p tb : Nat} {all : List Int} (h : HashIn w0 p tb all w) (ao : Option Addr) (bs : List Int) (n cap : Nat) (hn : bs.length = n) (hz : IntsAt .u8 w ao bs) (hB : InB bs) (hp : bs = [] ∨ ∀ a, ao = some a → a.block ≠ p) (hlen : all.length + n ≤ 1099511627776) :
    Calls Try.prog 79 #[.pointer (some ⟨p, 0, none⟩), .slice ao n cap] w fun e w' => e = .returned (.tuple #[]) ∧ HashIn w0 p tb (all ++ bs) w' ∧ ∀ i, i < w0.heap.size → i ≠ tb → i ≠ p → w'.heap[i]? = w.heap[i]? := by
  obtain ⟨v, h1, h2, h3, h4, h5, h6⟩ := h
  refine (write_any p tb v all w h1 h2 ao bs n cap hn hz hB hp hlen).mono ?_
  rintro e w' ⟨rfl, v', t1, t2, t3, t4⟩
  refine ⟨rfl, ⟨v', t1, t2, h3.trans t3 (fun i hi => ?_), fun g hg => Nat.le_trans h3.size (t4 g hg), h5, h6⟩, fun i hi h7 h8 => t3.block i (Nat.lt_of_lt_of_le hi h3.size) (fun e => ?_)⟩
  · rcases hi with h | h | h
    · exact Or.inl (Or.inl h)
    · exact Or.inl (Or.inr h)
    · exact Or.inr (h4 i h)
  · rcases e with h | h | h
    · exact h7 h
    · exact h8 h
    · have := h4 i h; omega
/-- What Sum hands back, of a hash under way. -/
def SumIn (w0 : World) (p tb : Nat) (all : List Int) (w : World) (e : Ending) (w' : World) : Prop :=
  ∃ g cap, e = .returned (.slice (some ⟨g, 0, none⟩) 32 cap) ∧ HashIn w0 p tb all w' ∧ w'.ownsRow 0 5 1 (.slice (some ⟨g, 0, none⟩) 32 cap) 32 ((shaF all).map (Value.int .u8)) ∧ Keeps (fun i => i = tb) w w' ∧ w.heap.size ≤ g
theorem hashIn_sum {w0 w : World} {p tb : Nat} {all : List Int} (h : HashIn w0 p tb all w) (hlen : all.length ≤ 1099511627776) :
    Calls Try.prog 80 #[.pointer (some ⟨p, 0, none⟩)] w (SumIn w0 p tb all w) := by
  have h0 := h
  obtain ⟨v, h1, h2, h3, h4, h5, h6⟩ := h
  refine (shaSum_any p tb v all w h1 h2 hlen).mono ?_
  rintro e w' ⟨g, cap, rfl, t1, t2, t3, t4, t5⟩
  exact ⟨g, cap, rfl, h0.keep t4 t1 (fun i hi => Or.inl hi), t2, t4, t5⟩

theorem ints_made {w : World} (n : Nat) : IntsAt .u8 (w.alloc (.cells (madeCells #[.int .u8 0] n) 5)) (some ⟨w.heap.size, 0, none⟩) (List.replicate n 0) := by
  refine Or.inr ⟨_, _, rfl, fun i hi => ?_⟩
  simp only [List.length_replicate] at hi
  rw [Nat.zero_add, blk_cell (heap_alloc_new w _) i, ← Array.getElem?_toList, toList_madeCells_one, List.getElem?_replicate, if_pos hi]
  simp [List.getD, hi]
theorem inB_zeros (n : Nat) : InB (List.replicate n 0) := fun z hz => by
  rw [List.mem_replicate] at hz; omega

end Go.Proofs.Ytbhoakohpfdeoaa
