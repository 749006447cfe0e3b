/- The ledger: Events; rows of events sliced. -/
import Derived.Test.YtkaciaehlibidaaGreatLe2
namespace Go.Proofs.YtkaciaehlibidaaGreat
open Go.RowKit
set_option linter.unusedVariables false
set_option linter.unusedSimpArgs false

def noE : EV := ⟨0, 0, 0, 0, 0, 0, 0, ⟨#[]⟩, ⟨#[]⟩⟩
def EV.list (e : EV) : List Value := e.cells.toList
theorem Try_infoE9 : (Tryz.prog.info? 55).map (fun i => (i.zero, i.size, i.bytes)) = some (some (.agg noE.cells), 9, 88) := by kernel_rfl
/-- A row of events of one's own lies as events. -/
theorem evs_of_own {w : World} {ao : Option Addr} {n c : Nat} {es : List EV} (hn : es.length = n) (h : w.ownsRow 0 55 9 (.slice ao n c) n (es.flatMap EV.list)) : EvsAt w ao es := by
  by_cases h0 : n = 0
  · exact Or.inl (List.eq_nil_of_length_eq_zero (by omega))
  · obtain ⟨g, rfl, hc⟩ := own_cell h (by omega)
    refine Or.inr ⟨g, 0, rfl, fun i hi j u hu => ?_⟩
    have hj : j < 9 := by
      have := (Array.getElem?_eq_some_iff.1 hu).1
      exact this
    have hf := flat_get EV.list 9 (fun _ => rfl) es i hi j hj
    have hx : (es[i].list)[j]? = es[i].cells[j]? := Array.getElem?_toList
    rw [hx, hu] at hf
    rw [Nat.zero_add]
    exact hc _ u hf
theorem EvsAt.drop {w : World} {ao : Option Addr} {es : List EV} (h : EvsAt w ao es) (k : Nat) (hk : k ≤ es.length) : EvsAt w (ao.map (·.add (k * 9))) (es.drop k) := by
  rcases h with h | ⟨b, off, rfl, h2⟩
  · exact Or.inl (by rw [h]; simp)
  · refine Or.inr ⟨b, off + k * 9, by rw [Option.map_some, addr_add], fun i hi => ?_⟩
    rw [List.length_drop] at hi
    rw [List.getElem_drop]
    have h3 := h2 (k + i) (by omega)
    have e : off + (k + i) * 9 = off + k * 9 + i * 9 := by rw [Nat.add_mul]; omega
    rw [e] at h3
    exact h3
/-- The address that a slicing of events leaves. -/
def slcE (ro : Option Addr) (lo rc : Nat) : Option Addr := if rc = lo then ro else ro.map (·.add (lo * 9))
theorem slice_ev (ro : Option Addr) (q rc lo : Nat) (h1 : lo ≤ q) (w : World) :
    (Instr.slice 35 (.slice ro q rc) (some (.int .i64 (lo : Int))) none none).run Tryz.prog w = .ok (.slice (slcE ro lo rc) (q - lo) (rc - lo)) w := by
  have hu := Tryz.underlying35
  obtain ⟨i0, hi0, hz0, hz1, hz2⟩ := info_parts Try_infoE9
  have hce : Tryz.prog.cellsOf 55 = 9 := by kernel_rfl
  unfold slcE
  simp [go_sem, hu, h1, hce]
theorem slcE_at {w : World} {ro : Option Addr} {es : List EV} {rc : Nat} (h : EvsAt w ro es) (k : Nat) (hk : k ≤ es.length) (hrc : es.length ≤ rc) : EvsAt w (slcE ro k rc) (es.drop k) := by
  unfold slcE
  split
  · exact Or.inl (List.drop_of_length_le (by omega))
  · exact h.drop k hk

section
variable {Sb : Nat → Prop} {W w : World} {n m : Nat} {E : Int} {s : LS} {T : Nat → Int} {A B tb q : Nat} {v : Value}
/-- An event that was done: its cells. -/
theorem LDat.dn {ao : Option Addr} {c : Nat} (h : LDat Sb W w n m E s T A B tb q (.slice ao s.es.length c)) (i : Nat) (hi : i < s.es.length) : ∃ g, ao = some ⟨g, 0, none⟩ ∧ ∀ j, j < 11 → w.cell? ⟨g, i * 11 + j, none⟩ = s.es[i].cells[j]? := by
  obtain ⟨g, rfl, hc⟩ := own_cell h.row (by omega)
  refine ⟨g, rfl, fun j hj => ?_⟩
  have hf := flat_get DN.list 11 (fun _ => rfl) s.es i hi j hj
  have hx : (s.es[i].list)[j]? = s.es[i].cells[j]? := Array.getElem?_toList
  rw [hx] at hf
  obtain ⟨u, hu⟩ : ∃ u, s.es[i].cells[j]? = some u := ⟨_, Array.getElem?_eq_getElem (show j < s.es[i].cells.size from hj)⟩
  rw [hu] at hf ⊢
  exact hc _ u hf
def DnB (w : World) (X : Nat) (d : DN) : Prop := w.heap[X]? = some (.cells d.cells 106 (0, 0))
theorem DnB.all {w : World} {X : Nat} {d : DN} (h : DnB w X d) : w.cell? ⟨X, 0, none⟩ = some (.int .i64 d.p) ∧ w.cell? ⟨X, 1, none⟩ = some (.int .i64 d.c) ∧ w.cell? ⟨X, 2, none⟩ = some (.int .i64 d.e.k) ∧ w.cell? ⟨X, 3, none⟩ = some (.int .i64 d.e.f) ∧ w.cell? ⟨X, 4, none⟩ = some (.int .i64 d.e.t) ∧ w.cell? ⟨X, 5, none⟩ = some (.int .i64 d.e.a) ∧ w.cell? ⟨X, 6, none⟩ = some (.int .i64 d.e.n) ∧ w.cell? ⟨X, 7, none⟩ = some (.int .i64 d.e.i) ∧ w.cell? ⟨X, 8, none⟩ = some (.int .i64 d.e.d) ∧ w.cell? ⟨X, 9, none⟩ = some (.string d.e.h) ∧ w.cell? ⟨X, 10, none⟩ = some (.string d.e.s) :=
  ⟨blk_cell h 0, blk_cell h 1, blk_cell h 2, blk_cell h 3, blk_cell h 4, blk_cell h 5, blk_cell h 6, blk_cell h 7, blk_cell h 8, blk_cell h 9, blk_cell h 10⟩
theorem ev_one (e : EV) : ∀ u ∈ e.list, u.oneCell' = true := by
  intro u hu
  simp only [EV.list, EV.cells, List.mem_cons, List.not_mem_nil, or_false] at hu
  rcases hu with e | e | e | e | e | e | e | e | e <;> rw [e] <;> rfl
set_option maxRecDepth 100000 in
set_option maxHeartbeats 4000000 in
theorem ledger_events (h : LDat Sb W w n m E s T A B tb q v) (hl : s.es.length ≤ 400) :
    Calls Tryz.prog 13 #[.pointer (some ⟨A, 0, none⟩)] w fun e w' => ∃ ao c, e = .returned (.slice ao s.es.length c) ∧ w'.ownsRow 0 55 9 (.slice ao s.es.length c) s.es.length (s.evs.flatMap EV.list) ∧ Below w.heap.size w w' ∧ ∀ g, (Value.slice ao s.es.length c).ownBlock = some g → w.heap.size ≤ g := by
  obtain ⟨lo, lc, rfl, _, _⟩ := own_shape h.row
  obtain ⟨_, _, _, c4⟩ := h.cells
  have H := Lib.hid h
  obtain ⟨ln, hln⟩ : ∃ ln, ln = s.es.length := ⟨_, rfl⟩
  have HL : Hid (s.es.length = ln ∧ ln ≤ 400) := Lib.hid ⟨hln.symm, by omega⟩
  rw [← hln] at c4 ⊢
  obtain ⟨i0, hi0, hz0, hz1, hz2⟩ := info_parts Try_infoE9
  clear h hl hln
  go_enter Tryz.func13, Tryz.ntmps13
  go_wp2_with fail
  clear c4
  go_loopw [3, 11] (fun o i wr => ∃ k : Nat, k ≤ ln ∧ i = .int .i64 (k : Int) ∧ ∃ ao c, o = .slice ao k c ∧ wr.ownsRow 0 55 9 (.slice ao k c) k ((s.evs.take k).flatMap EV.list) ∧ Below w.heap.size w wr ∧ ∀ g, (Value.slice ao k c).ownBlock = some g → w.heap.size ≤ g) (fun _ i _ => ln - (intOf i).toNat)
  case atStart => exact ⟨0, by omega, rfl, none, 0, rfl, World.ownsRow_nil _ _ _ _, Below.refl _ _, fun g hg => by cases hg⟩
  case round =>
    obtain ⟨k, hk, rfl, ao, c, rfl, hrow, hb, hnew⟩ := hrel
    have HB := Lib.hid hb
    have HROW := Lib.hid hrow
    have HNEW := Lib.hid hnew
    clear hb hrow hnew
    by_cases hlt : k < ln
    · have k0 : (0 : Int) ≤ (k : Int) := by omega
      have k1 : (k : Int) < (ln : Int) := by omega
      have hkl : k < s.es.length := by rw [HL.out.1]; exact hlt
      have HKL : Hid (k < ln) := Lib.hid hlt
      obtain ⟨g, rfl, hc⟩ := (H.out.below HB.out).dn k hkl
      have HEV : Hid (s.evs.take (k + 1) = s.evs.take k ++ [s.es[k].e]) := Lib.hid (by
        unfold LS.evs
        rw [List.take_add_one, List.getElem?_eq_getElem (by rw [List.length_map]; exact hkl)]; simp)
      generalize s.es[k] = d at *
      have e0 := hc 0 (by omega)
      have e1 := hc 1 (by omega)
      have e2 := hc 2 (by omega)
      have e3 := hc 3 (by omega)
      have e4 := hc 4 (by omega)
      have e5 := hc 5 (by omega)
      have e6 := hc 6 (by omega)
      have e7 := hc 7 (by omega)
      have e8 := hc 8 (by omega)
      have e9 := hc 9 (by omega)
      have e10 := hc 10 (by omega)
      simp only [DN.cells, List.getElem?_toArray, List.getElem?_cons_zero, List.getElem?_cons_succ, Nat.add_zero] at e0 e1 e2 e3 e4 e5 e6 e7 e8 e9 e10
      obtain ⟨w1, hw1⟩ : ∃ w1, w1 = wr.alloc (.cells d.cells 106) := ⟨_, rfl⟩
      obtain ⟨V, hV⟩ : ∃ V, V = wr.heap.size := ⟨_, rfl⟩
      have hb1 : Below wr.heap.size wr w1 := by rw [hw1]; exact (Below.refl _ _).alloc (Nat.le_refl _) _
      have HB1 : Hid (Below w.heap.size w w1) := Lib.hid (below_step HB.out hb1)
      have HX1 : Hid (DnB w1 V d) := Lib.hid (by rw [hw1, hV]; exact heap_alloc_new _ _)
      have HR1 : Hid (w1.ownsRow 0 55 9 (.slice ao k c) k ((s.evs.take k).flatMap EV.list)) := Lib.hid (ownsRow_same HROW.out (fun g hg => hb1.block g (HROW.out.lt g hg).2))
      have HW1 := Lib.hid hw1
      have HV := Lib.hid hV
      unfold DN.cells at HW1
      have HML : Hid (ln - (k + 1) < ln - k) := Lib.hid (by omega)
      clear hc hw1 hb1 hV hk hlt
      go_upto_region 5 with fail
      rw [← HW1.out, ← HV.out]
      clear e0 e1 e2 e3 e4 e5 e6 e7 e8 e9 e10 HW1
      obtain ⟨q0, q1, q2, q3, q4, q5, q6, q7, q8, q9, q10⟩ := HX1.out.all
      obtain ⟨x, hx⟩ : ∃ x, x = d.e := ⟨_, rfl⟩
      rw [← hx] at q2 q3 q4 q5 q6 q7 q8 q9 q10
      rw [← hx] at HEV
      have HPA : Hid ((w1.alloc (.cells x.cells 55)).ownsRow 0 55 9 (.slice ao k c) k ((s.evs.take k).flatMap EV.list)) := Lib.hid (ownsRow_same HR1.out (fun g hg => Below.heap_alloc _ _ _ (HR1.out.lt g hg).2))
      have HNW : Hid (∀ ad, some (⟨w1.heap.size, 0, none⟩ : Addr) = some ad → ∀ j u, (x.list)[j]? = some u → (w1.alloc (.cells x.cells 55)).cell? (ad.add j) = some u) := Lib.hid (fun ad had => by
        cases had
        intro j u hu
        rw [addr_add, Nat.zero_add, blk_cell (heap_alloc_new w1 (.cells x.cells 55))]
        unfold EV.list at hu
        rw [← hu, Array.getElem?_toList])
      have HX2 := Lib.hid (ev_one x)
      have HB2 : Hid (Below w.heap.size w (w1.alloc (.cells x.cells 55))) := Lib.hid (HB1.out.alloc HB1.out.size _)
      have HLX := HL.out.2
      unfold EV.cells at HPA HNW HB2
      clear hx
      go_wp2_with (at_builtin; refine wpList_append_any rfl _ _ 35 rfl 55 i0 _ 9 88 Tryz.underlying35 hi0 hz0 hz1 hz2 rfl (by decide) (.slice ao k c) k _ rfl HPA.out (some ⟨w1.heap.size, 0, none⟩) 1 1 x.list rfl ?q1 ?q2 ?q3 ?q4 ?q5 ?q6 ?_)
      case q1 => rfl
      case q2 => intro e; cases e
      case q3 => exact HNW.out
      case q4 => exact HX2.out
      case q5 => have := HKL.out; unfold maxLen; omega
      case q6 => have := HKL.out; omega
      intro ao3 cap3 w3 hown hgrow hat hnn
      have HO3 : Hid (w3.ownsRow 0 55 9 (.slice ao3 (k + 1) cap3) (k + 1) ((s.evs.take (k + 1)).flatMap EV.list)) := Lib.hid (by
        rw [HEV.out, List.flatMap_append]
        simp only [List.flatMap_cons, List.flatMap_nil, List.append_nil]
        exact hown)
      have HB3 : Hid (Below w.heap.size w w3) := Lib.hid (below_fp HB2.out ((Keeps.refl (fun i => (Value.slice ao k c).ownBlock = some i) _).grown hgrow (fun i hi => Or.inl hi)) (fun i hi => HNEW.out i hi))
      have HA3 : Hid (∀ g, (Value.slice ao3 (k + 1) cap3).ownBlock = some g → w.heap.size ≤ g) := Lib.hid (fun g hg => by
        rcases hat g hg with h | h
        · exact HNEW.out g h
        · have := HB1.out.size; omega)
      clear hown hgrow hat hnn q0 q1 q2 q3 q4 q5 q6 q7 q8 q9 q10
      go_wp2
      go_roundw
      case rel => exact ⟨k + 1, HKL.out, by go_num, ao3, cap3, rfl, HO3.out, HB3.out, HA3.out⟩
      case measure => simpa [intOf] using HML.out
    · obtain rfl : k = ln := by omega
      have HT : Hid (s.evs.take k = s.evs) := Lib.hid (List.take_of_length_le (by unfold LS.evs; rw [List.length_map, HL.out.1]; exact Nat.le_refl _))
      rw [HT.out] at HROW
      clear hlt hk
      go_wp2
      go_ret
      exact ⟨ao, c, rfl, HROW.out, HB.out, HNEW.out⟩
end

end Go.Proofs.YtkaciaehlibidaaGreat
