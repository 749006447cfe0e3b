/- Contracts of package wire's decoder: Bytes, NewDec, Left, Err, End. -/
import Derived.Test.YtbhoakohpfdeoaaDec2
namespace Go.Proofs.Ytbhoakohpfdeoaa
open Go.RowKit
set_option linter.unusedVariables false

def decBytes (zs : List Int) (e : Int) : List Int × List Int × Int :=
  if e = 0 then (if (numF zs 2).2 = 0 then (if (zs.length : Int) < 2 + (numF zs 2).1 then ([], zs, 2) else ((zs.drop 2).take (numF zs 2).1.toNat, zs.drop (2 + (numF zs 2).1.toNat), 0)) else ([], zs, (numF zs 2).2)) else ([], zs, e)
def BytesPost (T : TypeId) (w : World) (p g : Nat) (r : List Int × List Int × Int) (e : Ending) (w' : World) : Prop :=
  DecPost T w p g r.2.1 r.2.2 w' ∧ ∃ ao cap, e = .returned (.slice ao r.1.length cap) ∧ w'.ownsRow 0 5 1 (.slice ao r.1.length cap) r.1.length (r.1.map (Value.int .u8)) ∧ ∀ g', (Value.slice ao r.1.length cap).ownBlock = some g' → w.heap.size ≤ g'
theorem num2_in (zs : List Int) (h : InB zs) (h2 : (numF zs 2).2 = 0) : 0 ≤ (numF zs 2).1 ∧ (numF zs 2).1 < 65536 ∧ 2 ≤ zs.length := by
  unfold numF at *
  split at h2
  · split at h2
    · simp at h2
    · split at h2
      · simp at h2
      · rename_i a b c
        rw [if_pos a, if_neg b, if_neg c]
        have := valB_in (zs.take (2 : Int).toNat) (fun z hz => h z (List.mem_of_mem_take hz))
        have hl : (zs.take (2 : Int).toNat).length = 2 := by simp; omega
        rw [hl] at this
        have e : (256 : Int) ^ 2 = 65536 := by decide
        rw [e] at this
        exact ⟨this.1, this.2, by omega⟩
  · simp at h2
theorem bytes_nil {T : TypeId} {w : World} {p g : Nat} {zs : List Int} {e : Int} {w' : World} (h : DecPost T w p g zs e w') : BytesPost T w p g ([], zs, e) (.returned (.slice none 0 0)) w' :=
  ⟨h, none, 0, rfl, World.ownsRow_nil _ _ _ _, fun g hg => by cases hg⟩

theorem bytes_done {T : TypeId} {w w1 : World} {p g : Nat} {zs R : List Int} {m : Nat} (h : DecAt T w1 p g zs 0) (hbl : Below w.heap.size w w1) (hpl : p < w.heap.size) (ao2 : Option Addr) (cap2 : Nat) (hR : R.length = m)
    (ho : w1.ownsRow 0 5 1 (.slice ao2 m cap2) m (R.map (Value.int .u8))) (hf : ∀ g', (Value.slice ao2 m cap2).ownBlock = some g' → w.heap.size ≤ g')
    (k : Nat) (hk : k ≤ zs.length) (ao' : Option Addr) (n' cap' : Nat)
    (hv : ∀ ao cap, w1.cell? ⟨p, 0, none⟩ = some (.slice ao zs.length cap) → (k = cap ∧ ao' = ao ∧ cap' = 0) ∨ (ao' = ao.map (·.add k) ∧ cap' = cap - k)) (hn' : n' = zs.length - k) :
    BytesPost T w p g (R, zs.drop k, 0) (.returned (.slice ao2 m cap2)) (w1.setCell ⟨p, 0, none⟩ (.slice ao' n' cap')) := by
  have hcut := dec_cut h k hk ao' n' cap' hv hn'
  subst hR
  exact ⟨⟨hcut.1, (Keeps.of_below hbl).trans hcut.2 (fun _ h => Or.inl h)⟩, ao2, cap2, rfl,
    ownsRow_same ho (fun g' hg' => Below.heap_setCell _ _ _ _ (by have := hf g' hg'; show g' ≠ p; omega)), hf⟩


end Go.Proofs.Ytbhoakohpfdeoaa
