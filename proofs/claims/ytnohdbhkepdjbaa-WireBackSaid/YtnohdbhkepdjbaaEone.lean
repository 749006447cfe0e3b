/- One encoder, kept apart from what was there before. -/
import Derived.Test.YtnohdbhkepdjbaaEnc2
import Derived.Test.YtnohdbhkepdjbaaLaw4
namespace Go.Proofs.Ytnohdbhkepdjbaa
open Go.RowKit
set_option linter.unusedVariables false

def E1 (W w : World) (pe : Nat) (bs : List Int) (e : Int) : Prop :=
  ∃ v, EncAt 66 w pe v bs e ∧ Below W.heap.size W w ∧ W.heap.size ≤ pe ∧ (∀ k, v.ownBlock = some k → W.heap.size ≤ k)
theorem E1.base {W w : World} {pe : Nat} {bs : List Int} {e : Int} (h : E1 W w pe bs e) : Below W.heap.size W w := by obtain ⟨v, h1, h2, _⟩ := h; exact h2
theorem E1.below {W w w' : World} {pe : Nat} {bs : List Int} {e : Int} (h : E1 W w pe bs e) (hb : Below w.heap.size w w') : E1 W w' pe bs e := by
  obtain ⟨v, h1, h3, h4, h5⟩ := h
  exact ⟨v, h1.keep (Keeps.of_below (S := fun _ => False) hb) (fun _ _ f => f), h3.trans (hb.mono h3.size), h4, h5⟩
theorem E1.post {W w w' : World} {pe : Nat} {v : Value} {bs' : List Int} {e' : Int} (h3 : Below W.heap.size W w) (h4 : W.heap.size ≤ pe) (h5 : ∀ k, v.ownBlock = some k → W.heap.size ≤ k) (hp : EncPost 66 w pe v bs' e' w') : E1 W w' pe bs' e' := by
  obtain ⟨v', a1, a2, a3⟩ := hp
  refine ⟨v', a1, h3.trans (a2.below h3.size (fun k hk => by rcases hk with rfl | hk; exact h4; exact h5 k hk)), h4, fun k hk => ?_⟩
  rcases a3 k hk with h | h
  · exact h5 k h
  · have := h3.size; omega
theorem E1.num {W w : World} {pe : Nat} {bs : List Int} {e : Int} (h : E1 W w pe bs e) (n size : Int) (r : List Int × Int) (hr : encNum bs e n size = r) (hl : bs.length + 8 ≤ 140737488355328) :
    Calls Try.prog 21 #[.pointer (some ⟨pe, 0, none⟩), .int .i64 n, .int .i64 size] w fun en w' => en = .returned (.tuple #[]) ∧ E1 W w' pe r.1 r.2 := by
  obtain ⟨v, h1, h3, h4, h5⟩ := h
  subst hr
  exact (enc_num pe v bs e n size w h1 hl).mono fun _ _ ⟨a, b⟩ => ⟨a, E1.post h3 h4 h5 b⟩
theorem E1.bytes {W w : World} {pe : Nat} {bs : List Int} {e : Int} (h : E1 W w pe bs e) (ao : Option Addr) (xs : List Int) (n cap : Nat) (hn : xs.length = n) (hx : IntsAt .u8 w ao xs) (hf : xs = [] ∨ ∀ a, ao = some a → a.block < W.heap.size)
    (r : List Int × Int) (hr : encBytes bs e xs = r) (hl : bs.length + 8 + n ≤ 140737488355328) :
    Calls Try.prog 35 #[.pointer (some ⟨pe, 0, none⟩), .slice ao n cap] w fun en w' => en = .returned (.tuple #[]) ∧ E1 W w' pe r.1 r.2 := by
  obtain ⟨v, h1, h3, h4, h5⟩ := h
  subst hr
  refine (enc_bytes pe v bs e w h1 ao xs n cap hn hx ?_ hl).mono fun _ _ ⟨a, b⟩ => ⟨a, E1.post h3 h4 h5 b⟩
  rcases hf with h | h
  · exact Or.inl h
  · refine Or.inr (fun a ha hk => ?_)
    have := h a ha
    rcases hk with hk | hk
    · omega
    · have := h5 _ hk; omega
theorem E1.done {W w : World} {pe : Nat} {bs : List Int} {e : Int} (h : E1 W w pe bs e) (hl : bs.length ≤ 140737488355328) (R : List Int) (hR : doneB bs e = R) :
    Calls Try.prog 22 #[.pointer (some ⟨pe, 0, none⟩)] w (RowPost2 w R e) := by
  obtain ⟨v, h1, h3, h4, h5⟩ := h
  subst hR
  exact enc_done pe v bs e w h1 hl
theorem E1.new {W w w' : World} (hb : Below W.heap.size W w) (hw : w' = w.alloc (.cells #[.slice none 0 0, .int .i64 0] 66)) : E1 W w' w.heap.size [] 0 := by
  subst hw
  exact ⟨_, enc_new w _, hb.alloc hb.size _, hb.size, fun k hk => by cases hk⟩

theorem E1.drew {W w : World} {pe : Nat} {bs : List Int} {e : Int} (h : E1 W w pe bs e) : E1 W w.drew pe bs e := h.below (Below.refl _ _).drew

end Go.Proofs.Ytnohdbhkepdjbaa
