/- Chapter 4's example, and what its statements share. -/
import Derived.Test.YtnohdbhkepdjbaaEnc2
import Derived.Test.YtnohdbhkepdjbaaByt
namespace Go.Proofs.Ytnohdbhkepdjbaa
open Go.RowKit
set_option linter.unusedVariables false

theorem EncPost.below {T : TypeId} {w w' : World} {p : Nat} {v : Value} {bs : List Int} {e : Int} {B : Nat} (h : EncPost T w p v bs e w') (hB : B ≤ w.heap.size) (hp : B ≤ p) (hv : ∀ g, v.ownBlock = some g → B ≤ g) : Below B w w' := by
  obtain ⟨_, _, hK, _⟩ := h
  exact hK.below hB (fun k hk => by rcases hk with rfl | hk; exact hp; exact hv k hk)
theorem enc_new (w : World) (T : TypeId) : EncAt T (w.alloc (.cells #[.slice none 0 0, .int .i64 0] T)) w.heap.size (.slice none 0 0) [] 0 :=
  ⟨heap_alloc_new w _, World.ownsRow_nil _ _ _ _, fun h => by cases h⟩
theorem row_keep {w0 w w' : World} {v : Value} {zs : List Int} {S : Nat → Prop} (h : RowAt w0 v zs w) (hk : Keeps S w w') (hs : ∀ g, v.ownBlock = some g → ¬ S g) : w'.ownsRow 0 5 1 v zs.length (zs.map (Value.int .u8)) :=
  ownsRow_same h.1 (fun g hg => hk.block g (h.1.lt g hg).2 (hs g hg))

set_option maxHeartbeats 1000000 in
theorem first4_any (w : World) : Calls Try.prog 19 #[] w fun e w' => e = .returned (.bool true) ∧ Below w.heap.size w w' := by
  have hN := Lib.hid (show encNum [] 0 258 2 = ([1, 2], 0) by decide)
  have hb0 := Lib.hid (Below.refl w.heap.size w)
  go_enter Try.func19, Try.ntmps19
  go_wp2_with fail
  refine (newEnc _).mono ?_
  rintro e w1 ⟨rfl, rfl⟩
  go_wp2_with fail
  refine (enc_num _ _ [] 0 258 2 _ (enc_new w 66) (by decide)).mono ?_
  rintro e w2 ⟨rfl, h2⟩
  rw [hN.out] at h2
  have hb2 := Lib.hid ((hb0.out.alloc (Nat.le_refl _) _).trans (h2.below (B := w.heap.size) (by simp) (Nat.le_refl _) (fun g hg => by cases hg)))
  obtain ⟨v2, h2, _, _⟩ := h2
  have hd := enc_done _ _ _ _ _ h2 (by decide)
  have HD := Lib.hid hd
  clear hd h2
  go_wp2_with fail
  refine HD.out.mono ?_
  rintro e w3 ⟨ao, cap, rfl, hr⟩
  obtain ⟨ho, hbl, hf⟩ := hr
  have ho2 := owns_at ho
  have hb3 := Lib.hid (hb2.out.trans (hbl.mono hb2.out.size))
  have HE := Lib.hid (fun T => bytes_eq ao (some ⟨w3.heap.size, 0, none⟩) [1, 2] [1, 2] 2 2 cap 2 (w3.alloc (.cells #[.int .u8 1, .int .u8 2] T)) rfl rfl (ints_below ho2.2.1 ((Below.refl _ _).alloc (Nat.le_refl _) _)) (Or.inr ⟨_, _, rfl, fun i hi => by match i, hi with | 0, _ => simp | 1, _ => simp⟩) (by unfold InB; decide) (by unfold InB; decide))
  clear ho ho2 hbl hf HD hb0
  go_wp2_with fail
  refine (HE.out _).mono ?_
  rintro e w4 ⟨rfl, rfl⟩
  go_wp2
  go_ret
  exact ⟨rfl, hb3.out.alloc (by have := hb3.out.size; omega) _⟩

theorem first4 (w0 : World) (w : World) (h : Below w0.heap.size w0 w) : Calls Try.prog 19 #[] w fun e w' => e = .returned (.bool true) ∧ Below w0.heap.size w0 w' :=
  (first4_any w).mono fun _ _ ⟨he, hb⟩ => ⟨he, h.trans (hb.mono h.size)⟩

end Go.Proofs.Ytnohdbhkepdjbaa
