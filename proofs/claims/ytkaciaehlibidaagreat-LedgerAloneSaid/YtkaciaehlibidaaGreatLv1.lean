/- EncodeEvent; an encoder of one's own. -/
import Derived.Test.YtkaciaehlibidaaGreatLv0
import Derived.Test.YtkaciaehlibidaaGreatLl2
namespace Go.Proofs.YtkaciaehlibidaaGreat
open Go.RowKit
set_option linter.unusedVariables false
set_option linter.unusedSimpArgs false

set_option maxRecDepth 100000 in
set_option maxHeartbeats 2000000 in
theorem encodeEvent (e : EV) (w : World) (hs : e.h.size + e.s.size ≤ 1000000000) :
    Calls Tryz.prog 38 #[.agg e.cells] w (EncBPost w (evF e)) := by
  have HS := Lib.hid hs
  obtain ⟨w2, hw2⟩ : ∃ w2, w2 = (w.alloc (.cells e.cells 55)).alloc (.cells #[.slice none 0 0, .bool false] 147) := ⟨_, rfl⟩
  have hx2 : EvB w2 w.heap.size e := by
    rw [hw2]
    exact (Below.heap_alloc _ _ _ (by simp)).trans (heap_alloc_new w _)
  have HO2 : Hid (OutAt w w2 (w.heap.size + 1) (.slice none 0 0) ([], false)) := Lib.hid (by
    rw [hw2]
    have := buf_new (w.alloc (.cells e.cells 55)) 147 (.bool false)
    refine ⟨by simpa using this, ((Below.refl _ _).alloc (Nat.le_refl _) _).alloc (by simp) _, by omega, (fun g hg => by cases hg), by simp; omega⟩)
  have HOd := Lib.hid (HO2.out.below (below_drew w2))
  have HX2 := Lib.hid hx2
  have HN := Lib.hid (hasN_in e.k true)
  have HW2 := Lib.hid hw2
  obtain ⟨x0, x1, x2, x3, x4, x5, x6, x7, x8⟩ := hx2.all
  unfold EV.cells at HW2
  unfold EV.cells
  clear hs hw2 hx2
  go_enter Tryz.func38, Tryz.ntmps38
  go_upto_region 2 with fail
  rw [← HW2.out]
  refine wp_region_held_drew (S := fun w' => w'.cell? ⟨w.heap.size, 0, none⟩ = some (.int .i64 e.k) ∧ w'.cell? ⟨w.heap.size, 1, none⟩ = some (.int .i64 e.f) ∧ w'.cell? ⟨w.heap.size, 2, none⟩ = some (.int .i64 e.t) ∧ w'.cell? ⟨w.heap.size, 3, none⟩ = some (.int .i64 e.a) ∧ w'.cell? ⟨w.heap.size, 4, none⟩ = some (.int .i64 e.n) ∧ w'.cell? ⟨w.heap.size, 5, none⟩ = some (.int .i64 e.i) ∧ w'.cell? ⟨w.heap.size, 6, none⟩ = some (.int .i64 e.d) ∧ w'.cell? ⟨w.heap.size, 7, none⟩ = some (.string e.h) ∧ w'.cell? ⟨w.heap.size, 8, none⟩ = some (.string e.s)) (by kernel_rfl) ?_ (fun hHeld => ?_)
  · exact ⟨x0, x1, x2, x3, x4, x5, x6, x7, x8⟩
  refine take_at (i := 0) (d := 5) (v := ?_) rfl rfl (by kernel_rfl) (by kernel_rfl) (by kernel_rfl) (fun _ _ _ h => h) (Or.inl ⟨by rfl, by intro w' hSw; (try dsimp only at hSw); go_simp; try with_reducible rfl⟩) (by assumption) ?_
  simp only [List.setIfInBounds_toArray, List.set_cons_zero, List.set_cons_succ]
  refine take_at (i := 1) (d := 6) (v := ?_) rfl rfl (by kernel_rfl) (by kernel_rfl) (by kernel_rfl) (fun _ _ _ h => h) (Or.inl ⟨by rfl, by intro w' hSw; (try dsimp only at hSw); go_simp; try with_reducible rfl⟩) (by assumption) ?_
  simp only [List.setIfInBounds_toArray, List.set_cons_zero, List.set_cons_succ]
  refine take_at (i := 2) (d := 7) (v := ?_) rfl rfl (by kernel_rfl) (by kernel_rfl) (by kernel_rfl) (fun _ _ _ h => h) (Or.inl ⟨by rfl, by intro w' hSw; (try dsimp only at hSw); go_simp; try with_reducible rfl⟩) (by assumption) ?_
  simp only [List.setIfInBounds_toArray, List.set_cons_zero, List.set_cons_succ]
  refine wpAnyH_ready (rs := [3]) (by kernel_rfl) (by simp) ?_
  refine AllReadyH.cons rfl (fun K hK => ?_) AllReadyH.nil
  go_simp
  refine (has_any e.k true _).mono ?_
  rintro en w3 ⟨rfl, rfl⟩
  dsimp only
  go_wp2_with fail
  refine hK.out _ _ ?_ (fun hHeld => ?_)
  · exact ⟨x0, x1, x2, x3, x4, x5, x6, x7, x8⟩
  clear hK K
  try simp only [Act.put, List.getElem_toArray, List.getElem_cons_succ, List.getElem_cons_zero]
  try simp only [List.setIfInBounds_toArray, List.set_cons_zero, List.set_cons_succ]
  refine wpAnyH_ready (rs := [4]) (by kernel_rfl) (by simp) ?_
  refine AllReadyH.cons rfl (fun K hK => ?_) AllReadyH.nil
  go_simp
  refine (out_event (w.heap.size + 1) (.slice none 0 0) [] false e (hasN e.k true) w2.drew HOd.out.1 HN.out.1 (by have := HN.out.2; have := HS.out; simp only [List.length_nil]; omega)).mono ?_
  rintro en w4 ⟨rfl, hp⟩
  obtain ⟨v4, ho4, hk4⟩ := HOd.out.post (st' := evOut e (hasN e.k true) ([], false)) hp
  have HO4 := Lib.hid ho4
  have HX4 : Hid (EvB w4 w.heap.size e) := Lib.hid (HOd.out.head hk4 HX2.out)
  clear hp ho4 hk4
  dsimp only
  go_wp2_with fail
  refine hK.out _ _ ?_ (fun hHeld => ?_)
  · exact HX4.out.all
  clear hK K
  try simp only [Act.put, List.getElem_toArray, List.getElem_cons_succ, List.getElem_cons_zero]
  try simp only [List.setIfInBounds_toArray, List.set_cons_zero, List.set_cons_succ]
  refine wpAnyH_done (by kernel_rfl) ?_ _
  clear hHeld x0 x1 x2 x3 x4 x5 x6 x7 x8
  have HEF : Hid (evF e = outEnd (evOut e (hasN e.k true) ([], false))) := Lib.hid rfl
  generalize evOut e (hasN e.k true) ([], false) = st at *
  go_wp2_with fail
  refine (out_done _ v4 st.1 st.2 _ HO4.out.1).mono ?_
  rintro en w5 ⟨⟨ao5, cap5, rfl, hv5⟩, rfl⟩
  have HV := Lib.hid hv5
  clear hv5
  go_wp2
  go_ret2
  rw [HEF.out]
  exact outEnd_post HO4.out ao5 cap5 HV.out

/-! ### An encoder of the call's own. -/
theorem RowAt.below {w0 w w' : World} {v : Value} {zs : List Int} (h : RowAt w0 v zs w) (hb : Below w.heap.size w w') : RowAt w0 v zs w' :=
  ⟨ownsRow_same h.1 (fun g hg => hb.block g (h.1.lt g hg).2), below_step h.2.1 hb, h.2.2⟩
def EN (w0 w : World) (p : Nat) (bs : List Int) : Prop := ∃ v, EncAt 144 w p v bs 0 ∧ Below w0.heap.size w0 w ∧ w0.heap.size ≤ p ∧ ∀ g, v.ownBlock = some g → w0.heap.size ≤ g
theorem en_new {w0 w : World} (hb : Below w0.heap.size w0 w) : EN w0 (w.alloc (.cells #[.slice none 0 0, .int .i64 0] 144)) w.heap.size [] :=
  ⟨.slice none 0 0, ⟨heap_alloc_new w _, World.ownsRow_nil _ _ _ _, fun h => by cases h⟩, hb.alloc hb.size _, hb.size, fun g hg => by cases hg⟩
theorem EN.bel {w0 w : World} {p : Nat} {bs : List Int} (h : EN w0 w p bs) : Below w0.heap.size w0 w := by obtain ⟨_, _, h, _⟩ := h; exact h
theorem EN.num {w0 w : World} {p : Nat} {bs : List Int} (h : EN w0 w p bs) (x z : Int) (hf : fitsB x z = true) (hl : bs.length + 8 ≤ 140737488355328) :
    Calls Tryz.prog 36 #[.pointer (some ⟨p, 0, none⟩), .int .i64 x, .int .i64 z] w fun en w' => en = .returned (.tuple #[]) ∧ EN w0 w' p (bs ++ putB x z.toNat) := by
  obtain ⟨v, h1, h2, h3, h4⟩ := h
  refine (enc_num p v bs 0 x z w h1 hl).mono ?_
  rintro en w' ⟨rfl, hp⟩
  rw [encNum_ok bs x z hf] at hp
  obtain ⟨v', k1, k2, k3⟩ := hp
  refine ⟨rfl, v', k1, h2.trans (k2.below h2.size (fun k hk => ?_)), h3, fun g hg => ?_⟩
  · rcases hk with rfl | hk
    · exact h3
    · exact h4 k hk
  · rcases k3 g hg with e | e
    · exact h4 g e
    · exact Nat.le_trans h2.size e
theorem EN.done {w0 w : World} {p : Nat} {bs : List Int} (h : EN w0 w p bs) (hl : bs.length ≤ 140737488355328) :
    Calls Tryz.prog 37 #[.pointer (some ⟨p, 0, none⟩)] w fun en w' => ∃ ao cap, en = .returned (.tuple #[.slice ao bs.length cap, .int .i64 0]) ∧ RowAt w0 (.slice ao bs.length cap) bs w' := by
  obtain ⟨v, h1, h2, h3, h4⟩ := h
  refine (enc_done p v bs 0 w h1 hl).mono ?_
  rintro en w' ⟨ao, cap, rfl, hr⟩
  exact ⟨ao, cap, rfl, hr.1, below_step h2 hr.2.1, fun g hg => Nat.le_trans h2.size (hr.2.2 g hg)⟩

end Go.Proofs.YtkaciaehlibidaaGreat
