/- Package escrow: closes, Claim, Refund. -/
import Derived.Test.YtkaciaehlibidaaGreatEs4
import Derived.Test.YtkaciaehlibidaaGreatLgB
namespace Go.Proofs.YtkaciaehlibidaaGreat
open Go.RowKit
set_option linter.unusedVariables false
set_option linter.unusedSimpArgs false

def closeB (n m : Nat) (b : Nat → Nat → Int) (x : XR) (to' : Int) : Nat → Nat → Int := if giveE n m b to' x.a x.n = 0 then giveN n m b to' x.a x.n else b
def closeL (n m : Nat) (b : Nat → Nat → Int) (l : List XR) (k : Nat) (x : XR) (to' st : Int) (sec : ByteArray) : List XR := if giveE n m b to' x.a x.n = 0 then l.set k (x.close st sec) else l
theorem flatX_set (st : Int) (sec : ByteArray) : ∀ (l : List XR) (k : Nat) (h : k < l.length), ((l.flatMap XR.list).set (k * 8 + 5) (.int .i64 st)).set (k * 8 + 7) (.string sec) = (l.set k (l[k].close st sec)).flatMap XR.list
  | [], k, h => by simp at h
  | x :: l, 0, _ => by simp [XR.list, XR.cells, XR.close]
  | x :: l, k + 1, h => by
    have ih := flatX_set st sec l k (by simpa using h)
    simp only [List.getElem_cons_succ, List.set_cons_succ, List.flatMap_cons]
    rw [← ih]
    have e1 : (k + 1) * 8 + 5 = 8 + (k * 8 + 5) := by omega
    have e2 : (k + 1) * 8 + 7 = 8 + (k * 8 + 7) := by omega
    have hl : x.list.length = 8 := rfl
    rw [e1, e2, List.set_append_right _ _ (by omega), List.set_append_right _ _ (by omega), hl]
    simp
section
variable {w w' : World} {Sp : Nat → Prop} {B tb q n m : Nat} {b : Nat → Nat → Int} {l : List XR} {v : Value} {T : Nat → Int}
/-- An escrow closed: its two cells written. -/
theorem BK.close {g c k : Nat} (h : BK w Sp B tb q n m b l (.slice (some ⟨g, 0, none⟩) l.length c)) (hk : k < l.length) (st : Int) (sec : ByteArray) :
    BK ((w.setCell ⟨g, k * 8 + 5, none⟩ (.int .i64 st)).setCell ⟨g, k * 8 + 7, none⟩ (.string sec)) Sp B tb q n m b (l.set k (l[k].close st sec)) (.slice (some ⟨g, 0, none⟩) l.length c) := by
  have hK : Keeps (fun i => i = g) w ((w.setCell ⟨g, k * 8 + 5, none⟩ (.int .i64 st)).setCell ⟨g, k * 8 + 7, none⟩ (.string sec)) := ((Keeps.refl (fun i => i = g) w).setCell (p := ⟨g, k * 8 + 5, none⟩) (Or.inl rfl) _).setCell (p := ⟨g, k * 8 + 7, none⟩) (Or.inl rfl) _
  refine ⟨(hK.block B (blk_lt h.box) (fun e => h.vB g rfl e.symm)).trans h.box, ?_, h.pu.keep hK (fun i hi e => h.nv g rfl (e ▸ hi)), h.nB, h.nv⟩
  rw [← flatX_set st sec l k hk]
  refine ⟨by simpa using h.row.1, ?_⟩
  rcases h.row.2 with ⟨hv, _⟩ | ⟨g', cap', cur, hv, hb, hh, hnc, hm, hs, ht⟩
  · cases hv
  · simp only [Value.slice.injEq, Option.some.injEq, Addr.mk.injEq] at hv
    obtain ⟨⟨rfl, _⟩, _, rfl⟩ := hv
    rw [List.length_set]
    refine Or.inr ⟨g, c, (cur.setIfInBounds (k * 8 + 5) (.int .i64 st)).setIfInBounds (k * 8 + 7) (.string sec), rfl, hb, blk_set (blk_set hh _ _) _ _, hnc, hm, by simpa using hs, ?_⟩
    rw [Array.toList_setIfInBounds, Array.toList_setIfInBounds, List.take_set, List.take_set, ht]

set_option maxRecDepth 100000 in
set_option maxHeartbeats 2000000 in
theorem book_closes {g c k : Nat} (h : BK w Sp B tb q n m b l (.slice (some ⟨g, 0, none⟩) l.length c)) (hg : Good n m b) (hk : k < l.length) (to' st : Int) (sec : ByteArray) :
    Calls Tryz.prog 103 #[.pointer (some ⟨B, 0, none⟩), .pointer (some ⟨g, k * 8, none⟩), .int .i64 to', .int .i64 st, .string sec] w fun e w' =>
      e = .returned (.int .i64 (giveE n m b to' l[k].a l[k].n)) ∧ BPost w Sp B tb q n m (.slice (some ⟨g, 0, none⟩) l.length c) (closeB n m b l[k] to') (closeL n m b l k l[k] to' st sec) w' := by
  have H := Lib.hid h
  have HK := Lib.hid hk
  obtain ⟨_, c1, _, _⟩ := h.cells
  obtain ⟨_, hge, hc, hf⟩ := h.esc k hk
  cases hge
  have e2 := hc 2 (by omega)
  have e3 := hc 3 (by omega)
  simp only [XR.cells, List.getElem?_toArray, List.getElem?_cons_zero, List.getElem?_cons_succ] at e2 e3
  have HGV := Lib.hid (pur_give q n m Sp b w.drew (h.pu.keep ((Keeps.refl (fun _ => False) w).drew) (fun _ _ h => h)) hg to' l[k].a l[k].n)
  have HCL := Lib.hid (fun (w' : World) (b' : Nat → Nat → Int) (h' : BK w' Sp B tb q n m b' l (.slice (some ⟨g, 0, none⟩) l.length c)) => (⟨h'.close hk st sec, h'.esc k hk⟩ : BK ((w'.setCell ⟨g, k * 8 + 5, none⟩ (.int .i64 st)).setCell ⟨g, k * 8 + 7, none⟩ (.string sec)) Sp B tb q n m b' (l.set k (l[k].close st sec)) (.slice (some ⟨g, 0, none⟩) l.length c) ∧ _))
  have HGN : Hid (giveE n m b to' l[k].a l[k].n ≠ 0 → giveN n m b to' l[k].a l[k].n = b) := Lib.hid (fun h => by
    unfold giveE at h; unfold giveN
    split at h
    · exact absurd rfl h
    · rename_i hh; rw [if_neg hh])
  have HBB : Hid (closeB n m b l[k] to' = if giveE n m b to' l[k].a l[k].n = 0 then giveN n m b to' l[k].a l[k].n else b) := Lib.hid rfl
  have HLL : Hid (closeL n m b l k l[k] to' st sec = if giveE n m b to' l[k].a l[k].n = 0 then l.set k (l[k].close st sec) else l) := Lib.hid rfl
  generalize closeB n m b l[k] to' = BB at *
  generalize closeL n m b l k l[k] to' st sec = LL at *
  generalize giveE n m b to' l[k].a l[k].n = ge at *
  generalize giveN n m b to' l[k].a l[k].n = gb at *
  generalize l[k].close st sec = X2 at *
  generalize l[k] = x at *
  clear h hc hf
  go_enter Tryz.func103, Tryz.ntmps103
  go_upto_region 1 with fail
  refine wp_region_held_drew (S := fun w' => w'.cell? ⟨B, 1, none⟩ = some (.pointer (some ⟨q, 0, none⟩)) ∧ w'.cell? ⟨g, k * 8 + 2, none⟩ = some (.int .i64 x.a) ∧ w'.cell? ⟨g, k * 8 + 3, none⟩ = some (.int .i64 x.n)) (by kernel_rfl) ?_ (fun hHeld => ?_)
  · exact ⟨c1, e2, e3⟩
  refine take_at (i := 0) (d := 12) (v := ?_) rfl rfl (by kernel_rfl) (by kernel_rfl) (by kernel_rfl) (fun _ _ _ h => h) (Or.inl ⟨by rfl, by intro w' hSw; (try dsimp only at hSw); go_simp; try with_reducible rfl⟩) (by assumption) ?_
  simp only [List.setIfInBounds_toArray, List.set_cons_zero, List.set_cons_succ]
  refine take_at (i := 1) (d := 13) (v := ?_) rfl rfl (by kernel_rfl) (by kernel_rfl) (by kernel_rfl) (fun _ _ _ h => h) (Or.inl ⟨by rfl, by intro w' hSw; (try dsimp only at hSw); go_simp; try with_reducible rfl⟩) (by assumption) ?_
  simp only [List.setIfInBounds_toArray, List.set_cons_zero, List.set_cons_succ]
  refine take_at (i := 2) (d := 14) (v := ?_) rfl rfl (by kernel_rfl) (by kernel_rfl) (by kernel_rfl) (fun _ _ _ h => h) (Or.inl ⟨by rfl, by intro w' hSw; (try dsimp only at hSw); go_simp; try with_reducible rfl⟩) (by assumption) ?_
  simp only [List.setIfInBounds_toArray, List.set_cons_zero, List.set_cons_succ]
  refine take_at (i := 3) (d := 15) (v := ?_) rfl rfl (by kernel_rfl) (by kernel_rfl) (by kernel_rfl) (fun _ _ _ h => h) (Or.inl ⟨by rfl, by intro w' hSw; (try dsimp only at hSw); go_simp; try with_reducible rfl⟩) (by assumption) ?_
  simp only [List.setIfInBounds_toArray, List.set_cons_zero, List.set_cons_succ]
  refine take_at (i := 4) (d := 16) (v := ?_) rfl rfl (by kernel_rfl) (by kernel_rfl) (by kernel_rfl) (fun _ _ _ h => h) (Or.inl ⟨by rfl, by intro w' hSw; (try dsimp only at hSw); go_simp; try with_reducible rfl⟩) (by assumption) ?_
  simp only [List.setIfInBounds_toArray, List.set_cons_zero, List.set_cons_succ]
  refine take_at (i := 5) (d := 17) (v := ?_) rfl rfl (by kernel_rfl) (by kernel_rfl) (by kernel_rfl) (fun _ _ _ h => h) (Or.inl ⟨by rfl, by intro w' hSw; (try dsimp only at hSw); go_simp; try with_reducible rfl⟩) (by assumption) ?_
  simp only [List.setIfInBounds_toArray, List.set_cons_zero, List.set_cons_succ]
  refine take_at (i := 6) (d := 18) (v := ?_) rfl rfl (by kernel_rfl) (by kernel_rfl) (by kernel_rfl) (fun _ _ _ h => h) (Or.inl ⟨by rfl, by intro w' hSw; (try dsimp only at hSw); go_simp; try with_reducible rfl⟩) (by assumption) ?_
  simp only [List.setIfInBounds_toArray, List.set_cons_zero, List.set_cons_succ]
  refine take_at (i := 7) (d := 19) (v := ?_) rfl rfl (by kernel_rfl) (by kernel_rfl) (by kernel_rfl) (fun _ _ _ h => h) (Or.inl ⟨by rfl, by intro w' hSw; (try dsimp only at hSw); go_simp; try with_reducible rfl⟩) (by assumption) ?_
  simp only [List.setIfInBounds_toArray, List.set_cons_zero, List.set_cons_succ]
  refine take_at (i := 8) (d := 20) (v := ?_) rfl rfl (by kernel_rfl) (by kernel_rfl) (by kernel_rfl) (fun _ _ _ h => h) (Or.inl ⟨by rfl, by intro w' hSw; (try dsimp only at hSw); go_simp; try with_reducible rfl⟩) (by assumption) ?_
  simp only [List.setIfInBounds_toArray, List.set_cons_zero, List.set_cons_succ]
  refine take_at (i := 9) (d := 21) (v := ?_) rfl rfl (by kernel_rfl) (by kernel_rfl) (by kernel_rfl) (fun _ _ _ h => h) (Or.inl ⟨by rfl, by intro w' hSw; (try dsimp only at hSw); go_simp; try with_reducible rfl⟩) (by assumption) ?_
  simp only [List.setIfInBounds_toArray, List.set_cons_zero, List.set_cons_succ]
  refine take_at (i := 10) (d := 22) (v := ?_) rfl rfl (by kernel_rfl) (by kernel_rfl) (by kernel_rfl) (fun _ _ _ h => h) (Or.inl ⟨by rfl, by intro w' hSw; (try dsimp only at hSw); go_simp; try with_reducible rfl⟩) (by assumption) ?_
  simp only [List.setIfInBounds_toArray, List.set_cons_zero, List.set_cons_succ]
  refine take_at (i := 11) (d := 23) (v := ?_) rfl rfl (by kernel_rfl) (by kernel_rfl) (by kernel_rfl) (fun _ _ _ h => h) (Or.inl ⟨by rfl, by intro w' hSw; (try dsimp only at hSw); go_simp; try with_reducible rfl⟩) (by assumption) ?_
  simp only [List.setIfInBounds_toArray, List.set_cons_zero, List.set_cons_succ]
  refine take_at (i := 12) (d := 24) (v := ?_) rfl rfl (by kernel_rfl) (by kernel_rfl) (by kernel_rfl) (fun _ _ _ h => h) (Or.inl ⟨by rfl, by intro w' hSw; (try dsimp only at hSw); go_simp; try with_reducible rfl⟩) (by assumption) ?_
  simp only [List.setIfInBounds_toArray, List.set_cons_zero, List.set_cons_succ]
  refine wpAnyH_ready (rs := [13]) (by kernel_rfl) (by simp) ?_
  refine AllReadyH.cons rfl (fun K hK => ?_) AllReadyH.nil
  go_simp
  refine HGV.out.mono ?_
  rintro e w1 ⟨rfl, hp⟩
  have HP := Lib.hid hp
  have H1 : Hid (BK w1 Sp B tb q n m gb l (.slice (some ⟨g, 0, none⟩) l.length c)) := Lib.hid (BK.purse (w := w.drew) ⟨H.out.box, H.out.row, H.out.pu.keep ((Keeps.refl (fun _ => False) w).drew) (fun _ _ h => h), H.out.nB, H.out.nv⟩ hp)
  have HC1 := Lib.hid (HCL.out w1 gb H1.out)
  have HVV : Hid (∀ g', g' = g → g' < w.heap.size ∧ g' ≠ B ∧ ¬ Sp g') := Lib.hid (fun g' e => by rw [e]; exact ⟨(H.out.row.lt g rfl).2, H.out.vB g rfl, H.out.nv g rfl⟩)
  have d1 : w1.cell? ⟨B, 1, none⟩ = some (.pointer (some ⟨q, 0, none⟩)) := H1.out.cells.2.1
  have hgp : w1.heap[g]? = w.heap[g]? := hp.2.block g (HVV.out g rfl).1 (HVV.out g rfl).2.2
  have d2 := (World.cell?_of_block (a := ⟨g, k * 8 + 2, none⟩) hgp).trans e2
  have d3 := (World.cell?_of_block (a := ⟨g, k * 8 + 3, none⟩) hgp).trans e3
  clear hp hgp
  dsimp only
  go_wp2_with fail
  refine hK.out _ _ ?_ (fun hHeld => ?_)
  · exact ⟨d1, d2, d3⟩
  clear hK K
  try simp only [Act.put, List.getElem_toArray, List.getElem_cons_succ, List.getElem_cons_zero]
  try simp only [List.setIfInBounds_toArray, List.set_cons_zero, List.set_cons_succ]
  refine take_at (i := 14) (d := 11) (v := ?_) rfl rfl (by kernel_rfl) (by kernel_rfl) (by kernel_rfl) (fun _ _ _ h => h) (Or.inl ⟨by rfl, by intro w' hSw; (try dsimp only at hSw); go_simp; try with_reducible rfl⟩) (by assumption) ?_
  simp only [List.setIfInBounds_toArray, List.set_cons_zero, List.set_cons_succ]
  refine wpAnyH_done (by kernel_rfl) ?_ _
  clear hHeld c1 e2 e3 d1 d2 d3
  by_cases hge : ge = 0
  case neg =>
    have hb : (ge == 0) = false := by simp [hge]
    have hb' : (ge != 0) = true := by simp [hge]
    have HR : Hid (BB = b ∧ LL = l ∧ gb = b) := Lib.hid ⟨by rw [HBB.out, if_neg hge], by rw [HLL.out, if_neg hge], HGN.out hge⟩
    clear hge
    go_wp2
    go_ret
    rw [HR.out.1, HR.out.2.1]
    rw [HR.out.2.2] at H1
    exact ⟨rfl, _, H1.out, (keeps_undrew HP.out.2).mono (fun i _ h => Or.inr (Or.inr h)), fun g hg => Or.inl hg⟩
  have HR : Hid (BB = gb ∧ LL = l.set k X2) := Lib.hid ⟨by rw [HBB.out, if_pos hge], by rw [HLL.out, if_pos hge]⟩
  subst hge
  have hb0 : ((0 : Int) != 0) = false := rfl
  obtain ⟨hcl, _, hgee, hcc, hff⟩ := HC1.out
  cases hgee
  have HCZ := Lib.hid hcl
  have q5 := hcc 5 (by omega)
  have q7 := hcc 7 (by omega)
  have r5 := hff (k * 8 + 5)
  have r7 := hff (k * 8 + 7)
  simp only [XR.cells, List.getElem?_toArray, List.getElem?_cons_zero, List.getElem?_cons_succ] at q5 q7
  clear hcl hcc hff
  go_wp2
  go_ret
  rw [HR.out.1, HR.out.2]
  exact ⟨rfl, _, HCZ.out, ((((keeps_undrew HP.out.2).mono (fun i _ h => Or.inr (Or.inr h)) : Keeps (fpK Sp B (.slice (some ⟨g, 0, none⟩) l.length c)) w w1).setCell (p := ⟨g, k * 8 + 5, none⟩) (Or.inl (Or.inr (Or.inl rfl))) _).setCell (p := ⟨g, k * 8 + 7, none⟩) (Or.inl (Or.inr (Or.inl rfl))) _), fun g hg => Or.inl hg⟩
end

end Go.Proofs.YtkaciaehlibidaaGreat
