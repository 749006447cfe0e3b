/- Arguments of type []chain.Entry: each entry's kind and bytes. The reference's Next, Bad, Head; rows of entries. Rows of entries: few, alike; the reference's Head. -/
import Derived.Test.YtbhoakohpfdeoaaChP
import Derived.Test.YtbhoakohpfdeoaaRowz
import Derived.Lib.Hide
import Derived.Test.YtbhoakohpfdeoaaChB
import Derived.Test.YtbhoakohpfdeoaaFewl
namespace Go.Proofs.Ytbhoakohpfdeoaa
open Go.ChangeAt Go.ChangeShapes Go.Deep Go.RowKit Go.WideShapes
set_option linter.unusedVariables false
set_option linter.unusedSimpArgs false

theorem list_of {α : Type} (P : Nat → α → Prop) : ∀ (n : Nat), (∀ i, i < n → ∃ e, P i e) → ∃ es : List α, es.length = n ∧ ∀ i (hi : i < es.length), P i es[i]
  | 0, _ => ⟨[], rfl, fun i hi => by simp at hi⟩
  | n + 1, h => by
    obtain ⟨es, h1, h2⟩ := list_of P n (fun i hi => h i (by omega))
    obtain ⟨e, he⟩ := h n (by omega)
    refine ⟨es ++ [e], by simp [h1], fun i hi => ?_⟩
    by_cases hin : i < es.length
    · rw [List.getElem_append_left hin]; exact h2 i hin
    · have : i = es.length := by simp at hi; omega
      subst this
      rw [List.getElem_append_right (Nat.le_refl _)]
      simp only [Nat.sub_self, List.getElem_cons_zero]
      rw [h1]; exact he
/-- An entry as it lies. -/
structure EV where
  k : Int
  ao : Option Addr
  b : List Int
  c : Nat
def EV.er (e : EV) : ER := ⟨e.k, e.b⟩
def EV.okAt (e : EV) (w : World) : Prop := IntsAt .u8 w e.ao e.b ∧ InB e.b ∧ e.b.length ≤ e.c ∧ e.c ≤ maxLen
/-- Entries that lie in a row. -/
def EntAt (w : World) (ao : Option Addr) (es : List EV) : Prop :=
  (es = [] ∨ ∃ b off, ao = some ⟨b, off, none⟩ ∧ ∀ i (h : i < es.length), w.cell? ⟨b, off + i * 2, none⟩ = some (.int .i64 es[i].k) ∧ w.cell? ⟨b, off + i * 2 + 1, none⟩ = some (.slice es[i].ao es[i].b.length es[i].c)) ∧ ∀ e ∈ es, e.okAt w
theorem EntAt.below {w w' : World} {ao : Option Addr} {es : List EV} (h : EntAt w ao es) (hb : Below w.heap.size w w') : EntAt w' ao es := by
  refine ⟨h.1.imp id ?_, fun e he => ⟨ints_below (h.2 e he).1 hb, (h.2 e he).2⟩⟩
  rintro ⟨b, off, h1, h2⟩
  refine ⟨b, off, h1, fun i hi => ?_⟩
  have hl := World.block_lt_of_cell? w _ (h2 i hi).1
  exact ⟨(hb.cell (p := ⟨b, off + i * 2, none⟩) hl).trans (h2 i hi).1, (hb.cell (p := ⟨b, off + i * 2 + 1, none⟩) hl).trans (h2 i hi).2⟩
theorem EntAt.at {w : World} {ao : Option Addr} {es : List EV} (h : EntAt w ao es) (i : Nat) (hi : i < es.length) : ∃ b off, ao = some ⟨b, off, none⟩ ∧ w.cell? ⟨b, off + i * 2, none⟩ = some (.int .i64 es[i].k) ∧ w.cell? ⟨b, off + i * 2 + 1, none⟩ = some (.slice es[i].ao es[i].b.length es[i].c) := by
  rcases h.1 with h0 | ⟨b, off, h1, h2⟩
  · rw [h0] at hi; simp at hi
  · exact ⟨b, off, h1, h2 i hi⟩

section
variable {H : Type} {enc : TypeId × Value → H} {W : World}
theorem entries_of {ao : Option Addr} {len cap : Nat} {d : DataW H} {p : List MemPlace} (h : DataW.Trod enc Try.prog W 0 (fun _ => true) true 22 (.slice ao len cap) d p) :
    ∃ es : List EV, len = es.length ∧ EntAt W ao es ∧ len ≤ cap ∧ cap ≤ maxLen := by
  obtain ⟨h1, h2, h3⟩ := rows_of Try.underlying22 Try.underlying34 (by kernel_rfl) (by kernel_rfl) (by decide) h
  rcases h3 with h0 | ⟨b, off, hb, hx⟩
  · exact ⟨[], h0, ⟨Or.inl rfl, fun e he => by cases he⟩, h1, h2⟩
  · obtain ⟨es, e1, e2⟩ := list_of (fun i (e : EV) => (W.cell? ⟨b, off + i * 2, none⟩ = some (.int .i64 e.k) ∧ W.cell? ⟨b, off + i * 2 + 1, none⟩ = some (.slice e.ao e.b.length e.c)) ∧ e.okAt W) len (fun i hi => by
      obtain ⟨v0, x0, n0, c0, t0⟩ := hx i hi 0 _ rfl
      obtain ⟨v1, x1, n1, c1, t1⟩ := hx i hi 1 _ rfl
      obtain ⟨y0, g0, _, w0⟩ := DataW.trod_int Try.underlying3 t0
      simp only [List.cons.injEq, and_true] at g0
      subst g0
      obtain ⟨ao1, m, c, rfl⟩ : ∃ ao len cap, v1 = .slice ao len cap := by
        rcases open_slice Try.underlying29 t1 with ⟨hcs, _⟩ | ⟨a, l, c, m, n, D, Pl, hcs, _⟩
        · simp at hcs; exact ⟨_, _, _, hcs⟩
        · simp at hcs; exact ⟨_, _, _, hcs⟩
      obtain ⟨zs, k1, k2, k3, k4⟩ := ints_of Try.underlying29 Try.underlying5 (by kernel_rfl) (ao := ao1) (len := m) (cap := c) ⟨n1, t1⟩
      refine ⟨⟨y0, ao1, zs, c⟩, ⟨?_, ?_⟩, k2, inB_of_wf k4.2, k3, k4.1⟩
      · have e : off + (i * 2 + 0) = off + i * 2 := by omega
        rw [← e]; exact c0
      · have e : off + (i * 2 + 1) = off + i * 2 + 1 := by omega
        rw [← e, ← k1]; exact c1)
    exact ⟨es, e1.symm, ⟨Or.inr ⟨b, off, hb, fun i hi => (e2 i hi).1⟩, fun e he => by
      obtain ⟨i, hi, rfl⟩ := List.getElem_of_mem he
      exact (e2 i hi).2⟩, h1, h2⟩
end

set_option maxHeartbeats 1000000 in
theorem bad_any (e : ER) (ao : Option Addr) (m c : Nat) (w : World) (hm : e.b.length = m) :
    Calls Try.prog 20 #[.agg #[.int .i64 e.k, .slice ao m c]] w fun en w' => en = .returned (.int .i64 (badF e)) ∧ Below w.heap.size w w' := by
  have HM := Lib.hid hm
  have HB1 : Hid (Below w.heap.size w (w.alloc (.cells #[.int .i64 e.k, .slice ao m c] 34))) := Lib.hid ((Below.refl _ _).alloc (Nat.le_refl _) _)
  obtain ⟨c0, c1⟩ := (EBox.new w e.k (.slice ao m c)).cells
  clear hm
  by_cases h0 : e.k < 0
  · have HR := Lib.hid (show badF e = 1 by unfold badF; rw [if_neg (by omega)])
    go_enter Try.func20, Try.ntmps20
    go_wp2
    go_ret
    exact ⟨ret_int HR.out.symm, HB1.out⟩
  by_cases h1 : 255 < e.k
  · have HR := Lib.hid (show badF e = 1 by unfold badF; rw [if_neg (by omega)])
    go_enter Try.func20, Try.ntmps20
    go_wp2
    go_ret
    exact ⟨ret_int HR.out.symm, HB1.out⟩
  by_cases h2 : (60000 : Int) < (m : Int)
  · have HR := Lib.hid (show badF e = 3 by unfold badF; rw [if_pos (by omega), if_pos (by have := HM.out; omega)])
    go_enter Try.func20, Try.ntmps20
    go_wp2
    go_ret
    exact ⟨ret_int HR.out.symm, HB1.out⟩
  have HR := Lib.hid (show badF e = 0 by unfold badF; rw [if_pos (by omega), if_neg (by have := HM.out; omega)])
  go_enter Try.func20, Try.ntmps20
  go_wp2
  go_ret
  exact ⟨ret_int HR.out.symm, HB1.out⟩

set_option maxRecDepth 100000 in
set_option maxHeartbeats 2000000 in
theorem rnext_any (E : ER) (ao : Option Addr) (m c : Nat) (ho : Option Addr) (hd : List Int) (hc : Nat) (w : World) (hok : E.ok) (hm : E.b.length = m) (hz : IntsAt .u8 w ao E.b) (hB : InB E.b) (hhz : IntsAt .u8 w ho hd) (hhl : hd.length = 32) (hhB : InB hd) :
    Calls Try.prog 19 #[.slice ho 32 hc, .agg #[.int .i64 E.k, .slice ao m c]] w fun en w' => RowPost w (nextC hd E) en w' := by
  have HOK := Lib.hid hok
  have HM := Lib.hid hm
  have HZ := Lib.hid hz
  have HHZ := Lib.hid hhz
  have HML : Hid (m ≤ 60000) := Lib.hid (by have := hok.2; omega)
  have HHL := Lib.hid hhl
  obtain ⟨w1, hw1⟩ : ∃ w1, w1 = w.alloc (.cells #[.int .i64 E.k, .slice ao m c] 34) := ⟨_, rfl⟩
  have HX1 : Hid (EBox w1 w.heap.size E.k (.slice ao m c)) := Lib.hid (by rw [hw1]; exact EBox.new _ _ _)
  have HB1 : Hid (Below w.heap.size w w1) := Lib.hid (by rw [hw1]; exact (Below.refl _ _).alloc (Nat.le_refl _) _)
  have HW1 := Lib.hid hw1
  have HNE : Hid (nextC hd E = shaF (hd ++ putB E.k 1 ++ putB m 4 ++ E.b)) := Lib.hid (by unfold nextC startC; rw [hm]; simp only [List.append_assoc])
  have HEB : Hid (InB (hd ++ putB E.k 1 ++ putB m 4 ++ E.b)) := Lib.hid (inB_app (inB_app (inB_app hhB (putB_in _ _)) (putB_in _ _)) hB)
  have HEL : Hid ((hd ++ putB E.k 1 ++ putB m 4 ++ E.b).length = 37 + m) := Lib.hid (by simp [putB_length, hhl, hm]; omega)
  obtain ⟨w2, hw2⟩ : ∃ w2, w2 = w1.alloc (.cells #[.slice none 0 0, .int .i64 0] 105) := ⟨_, rfl⟩
  have HE2 := Lib.hid (EI.start 105 w1)
  rw [← hw2] at HE2
  have HW2 := Lib.hid hw2
  have HC2 := Lib.hid (HE2.out.raw ho hd 32 hc hhl (ints_below hhz (by rw [hw2, hw1]; exact ((Below.refl _ _).alloc (Nat.le_refl _) _).alloc (by simp) _)) (by simp))
  rw [List.nil_append] at HC2
  clear hok hm hz hB hhz hhl hhB hw1 hw2
  generalize hp : w1.heap.size = p at HE2 HC2
  have HPE := Lib.hid hp
  clear hp
  go_enter Try.func19, Try.ntmps19
  go_upto_region 1 with fail
  rw [← HW1.out]
  go_upto_region 2 with fail
  rw [← HW2.out, HPE.out]
  go_wp2_with fail
  refine HC2.out.mono ?_
  rintro e w3 ⟨rfl, he⟩
  have HE3 := Lib.hid he
  clear he HC2 HE2
  have HC3 := Lib.hid (HE3.out.rnum E.k 1 (by rw [HHL.out]; omega))
  rw [show refNum hd 0 E.k 1 = (hd ++ putB E.k 1, 0) from refNum_ok hd E.k 1 (by omega) HOK.out.1.1 (by have := HOK.out.1.2; omega)] at HC3
  obtain ⟨c0, c1⟩ := (HX1.out.below (HE3.out.below.mono (Nat.le_refl _))).cells
  go_wp2_with fail
  refine HC3.out.mono ?_
  rintro e w4 ⟨rfl, he⟩
  have HE4 := Lib.hid he
  clear he HC3 HE3 c0 c1
  have HC4 := Lib.hid (HE4.out.rnum (m : Int) 4 (by rw [List.length_append, HHL.out, putB_length]; omega))
  rw [show refNum (hd ++ putB E.k 1) 0 (m : Int) 4 = (hd ++ putB E.k 1 ++ putB (m : Int) 4, 0) from refNum_ok (hd ++ putB E.k 1) (m : Int) 4 (by omega) (by omega) (by have := HML.out; omega)] at HC4
  obtain ⟨c0, c1⟩ := (HX1.out.below (HE4.out.below.mono (Nat.le_refl _))).cells
  go_wp2_with fail
  refine HC4.out.mono ?_
  rintro e w5 ⟨rfl, he⟩
  have HE5 := Lib.hid he
  clear he HC4 HE4 c0 c1
  have HC5 := Lib.hid (HE5.out.raw ao E.b m c HM.out (ints_below HZ.out (below_step HB1.out HE5.out.below)) (by rw [List.length_append, List.length_append, HHL.out, putB_length, putB_length]; have := HML.out; omega))
  obtain ⟨c0, c1⟩ := (HX1.out.below (HE5.out.below.mono (Nat.le_refl _))).cells
  go_wp2_with fail
  refine HC5.out.mono ?_
  rintro e w6 ⟨rfl, he⟩
  have HE6 := Lib.hid he
  clear he HC5 HE5 c0 c1
  generalize hd ++ putB E.k 1 ++ putB m 4 ++ E.b = D at *
  obtain ⟨vo, vc, cv, hrow⟩ := HE6.out.open
  rw [HEL.out] at cv
  have HB6 : Hid (Below w.heap.size w w6) := Lib.hid (below_step HB1.out HE6.out.below)
  have HH := Lib.hid (rhash_any vo D (37 + m) vc w6 HEL.out (owns_at hrow.1).2.1 HEB.out (by have := HML.out; omega))
  clear hrow
  go_wp2_with fail
  refine HH.out.mono ?_
  rintro e w7 ⟨a7, c7, rfl, hr7⟩
  have HP : Hid (RowAt w (.slice a7 (shaF D).length c7) (shaF D) w7) := Lib.hid ⟨hr7.1, below_step HB6.out hr7.2.1, fun g hg => Nat.le_trans HB6.out.size (hr7.2.2 g hg)⟩
  clear hr7 HH
  go_wp2
  go_ret
  rw [HNE.out]
  exact ⟨a7, c7, rfl, HP.out⟩

/-- Entries that lie in a row, apart from some blocks. -/
def EntS (S : Nat → Prop) (w : World) (ao : Option Addr) (es : List EV) : Prop :=
  (es = [] ∨ ∃ b off, ao = some ⟨b, off, none⟩ ∧ ¬ S b ∧ ∀ i (h : i < es.length), w.cell? ⟨b, off + i * 2, none⟩ = some (.int .i64 es[i].k) ∧ w.cell? ⟨b, off + i * 2 + 1, none⟩ = some (.slice es[i].ao es[i].b.length es[i].c)) ∧
  ∀ e ∈ es, e.okAt w ∧ (e.b = [] ∨ ∀ a, e.ao = some a → ¬ S a.block)
section
variable {S S' : Nat → Prop} {w w' : World} {ao : Option Addr} {es : List EV}
theorem EntS.keep (h : EntS S w ao es) (hk : Keeps S w w') : EntS S w' ao es := by
  refine ⟨h.1.imp id ?_, fun e he => ⟨⟨?_, (h.2 e he).1.2⟩, (h.2 e he).2⟩⟩
  · rintro ⟨b, off, h1, h2, h3⟩
    refine ⟨b, off, h1, h2, fun i hi => ?_⟩
    have hl := World.block_lt_of_cell? w _ (h3 i hi).1
    exact ⟨(World.cell?_of_block (a := ⟨b, off + i * 2, none⟩) (hk.block b hl h2)).trans (h3 i hi).1, (World.cell?_of_block (a := ⟨b, off + i * 2 + 1, none⟩) (hk.block b hl h2)).trans (h3 i hi).2⟩
  · rcases (h.2 e he).2 with h0 | h0
    · exact Or.inl h0
    · exact (h.2 e he).1.1.same (fun a ha hl => hk.block a.block hl (h0 a ha))
theorem EntS.mono (h : EntS S w ao es) (hs : ∀ i, S' i → S i) : EntS S' w ao es := by
  refine ⟨h.1.imp id ?_, fun e he => ⟨(h.2 e he).1, (h.2 e he).2.imp id (fun f a ha hx => f a ha (hs _ hx))⟩⟩
  rintro ⟨b, off, h1, h2, h3⟩
  exact ⟨b, off, h1, fun hx => h2 (hs _ hx), h3⟩
theorem EntS.below (h : EntS S w ao es) (hb : Below w.heap.size w w') : EntS S w' ao es := by
  refine ⟨h.1.imp id ?_, fun e he => ⟨⟨ints_below (h.2 e he).1.1 hb, (h.2 e he).1.2⟩, (h.2 e he).2⟩⟩
  rintro ⟨b, off, h1, h2, h3⟩
  refine ⟨b, off, h1, h2, fun i hi => ?_⟩
  have hl := World.block_lt_of_cell? w _ (h3 i hi).1
  exact ⟨(hb.cell (p := ⟨b, off + i * 2, none⟩) hl).trans (h3 i hi).1, (hb.cell (p := ⟨b, off + i * 2 + 1, none⟩) hl).trans (h3 i hi).2⟩
theorem EntS.ent (h : EntS S w ao es) : EntAt w ao es := ⟨h.1.imp id (fun ⟨b, off, h1, _, h3⟩ => ⟨b, off, h1, h3⟩), fun e he => (h.2 e he).1⟩
/-- Entries that were there before. -/
theorem EntAt.ents (h : EntAt w ao es) (hS : ∀ i, S i → w.heap.size ≤ i) : EntS S w ao es := by
  refine ⟨?_, fun e he => ⟨h.2 e he, ?_⟩⟩
  · by_cases h0 : es = []
    · exact Or.inl h0
    · rcases h.1 with h1 | ⟨b, off, h1, h3⟩
      · exact Or.inl h1
      · refine Or.inr ⟨b, off, h1, fun hx => ?_, h3⟩
        have hl := World.block_lt_of_cell? w _ (h3 0 (List.length_pos_iff.2 h0)).1
        have := hS b hx
        dsimp only at hl
        omega
  · rcases (h.2 e he).1.far (p := w.heap.size) (Nat.le_refl _) with h1 | h1
    · exact Or.inl h1
    · by_cases h0 : e.b = []
      · exact Or.inl h0
      · refine Or.inr fun a ha hx => ?_
        have h2 := (h.2 e he).1
        rw [ha] at h2
        have := h2.lt h0
        have := hS _ hx
        omega
theorem EntAt.off {b off : Nat} (h : EntAt w (some ⟨b, off, none⟩) es) (i : Nat) (hi : i < es.length) : w.cell? ⟨b, off + i * 2, none⟩ = some (.int .i64 es[i].k) ∧ w.cell? ⟨b, off + i * 2 + 1, none⟩ = some (.slice es[i].ao es[i].b.length es[i].c) := by
  obtain ⟨b', off', h1, h2⟩ := h.at i hi
  cases h1
  exact h2
theorem EntAt.some (h : EntAt w ao es) (h0 : es ≠ []) : ∃ b off, ao = some ⟨b, off, none⟩ := by
  rcases h.1 with h1 | ⟨b, off, h1, _⟩
  · exact absurd h1 h0
  · exact ⟨b, off, h1⟩
end
/-- The entries themselves. -/
def ersL (es : List EV) : List ER := es.map EV.er
theorem ersL_len (es : List EV) : (ersL es).length = es.length := by simp [ersL]
theorem ersL_take (es : List EV) (k : Nat) : ersL (es.take k) = (ersL es).take k := by simp [ersL, List.map_take]
theorem ersL_succ (es : List EV) (k : Nat) (h : k < es.length) : (ersL es).take (k + 1) = (ersL es).take k ++ [es[k].er] := by
  rw [← ersL_take, ← ersL_take, List.take_add_one, List.getElem?_eq_getElem h]
  unfold ersL
  rw [List.map_append]
  rfl

set_option maxRecDepth 100000 in
set_option maxHeartbeats 2000000 in
theorem rheadC_any (ao : Option Addr) (es : List EV) (n c : Nat) (w : World) (hn : es.length = n) (h : EntAt w ao es) (hok : ∀ e ∈ es, e.er.ok) (hcap : n ≤ c) (hcm : c ≤ maxLen) (hm : n ≤ 1000000) :
    Calls Try.prog 21 #[.slice ao n c] w fun e w' => RowPost w (headC (ersL es)) e w' := by
  have HN := Lib.hid hn
  have HE := Lib.hid h
  have HOK := Lib.hid hok
  have HC := Lib.hid (And.intro hcap hcm)
  have HM := Lib.hid hm
  have hmk : ∀ w : World, (Instr.makeSlice 29 (.int .i64 32) (.int .i64 32)).run Try.prog w = .ok (.slice (some ⟨w.heap.size, 0, none⟩) 32 32) (w.alloc (.cells (madeCells #[.int .u8 0] 32) 5)) := fun w => run_make_row' (P := Try.prog) 29 5 (.int .u8 0) 1 Try.underlying29 Try_infoU8 rfl .i64 .i64 32 (by omega) (by omega) w
  have HR1 : Hid ((w.alloc (.cells (madeCells #[.int .u8 0] 32) 5)).ownsRow 0 5 1 (.slice (some ⟨w.heap.size, 0, none⟩) 32 32) 32 (zero32.map (Value.int .u8))) := Lib.hid ((RowL.made w 32).own 32 rfl (by unfold maxLen; omega))
  have HB1 : Hid (Below w.heap.size w (w.alloc (.cells (madeCells #[.int .u8 0] 32) 5))) := Lib.hid ((Below.refl _ _).alloc (Nat.le_refl _) _)
  clear hn h hok hcap hcm hm
  go_enter Try.func21, Try.ntmps21
  go_wp2_with fail
  generalize w.alloc (.cells (madeCells #[.int .u8 0] 32) 5) = w1 at *
  go_loopw [3, 4] (fun s i wr => ∃ (k : Nat) (a2 : Option Addr) (c2 : Nat), k ≤ n ∧ i = .int .i64 (k : Int) ∧ s = .slice a2 32 c2 ∧ wr.ownsRow 0 5 1 (.slice a2 32 c2) 32 ((headC (ersL (es.take k))).map (Value.int .u8)) ∧ Below w.heap.size w wr ∧ (∀ g, (Value.slice a2 32 c2).ownBlock = some g → w.heap.size ≤ g)) (fun _ i _ => n - (intOf i).toNat)
  case atStart => exact ⟨0, _, 32, by omega, rfl, rfl, HR1.out, HB1.out, fun g hg => Nat.le_of_eq (by simpa [Value.ownBlock] using hg)⟩
  case round =>
    obtain ⟨k, a2, c2, hk, rfl, rfl, ho, hb, hf⟩ := hrel
    have HO := Lib.hid ho
    have HB := Lib.hid hb
    have HF := Lib.hid hf
    clear ho hb hf
    by_cases hlt : k < n
    · have i1 : (k : Int) < (n : Int) := by omega
      have hkb : k < es.length := by rw [HN.out]; exact hlt
      have HEX := Lib.hid (HE.out.below HB.out)
      obtain ⟨b, off, rfl, c0, c1⟩ := HEX.out.at k hkb
      have HX := Lib.hid (HEX.out.2 es[k] (List.getElem_mem hkb))
      have HXK := Lib.hid (HOK.out es[k] (List.getElem_mem hkb))
      have HSU := Lib.hid (ersL_succ es k hkb)
      obtain ⟨m, hm⟩ : ∃ m, m = es[k].b.length := ⟨_, rfl⟩
      rw [← hm] at c1
      have HCA := Lib.hid (rnext_any es[k].er es[k].ao m es[k].c a2 (headC (ersL (es.take k))) c2 wr HXK.out hm.symm HX.out.1 HX.out.2.1 (owns_at HO.out).2.1 (headC_len _) (headC_inB _))
      have HNX : Hid (headC (ersL (es.take (k + 1))) = nextC (headC (ersL (es.take k))) es[k].er) := Lib.hid (by rw [ersL_take, HSU.out, headC_snoc, ← ersL_take])
      unfold EV.er at HCA
      dsimp only at HCA
      generalize es[k] = ek at *
      have w2 : wrap64 ((k : Int) + 1) = ((k + 1 : Nat) : Int) := by have := HM.out; unfold wrap64; omega
      have HW2 := Lib.hid w2
      clear hm w2
      go_wp2_with fail
      with_reducible refine HCA.out.mono ?_
      rintro e w3 ⟨a3, c3, rfl, hr3⟩
      rw [nextC_len] at hr3 ⊢
      have HO3 : Hid (w3.ownsRow 0 5 1 (.slice a3 32 c3) 32 ((headC (ersL (es.take (k + 1)))).map (Value.int .u8))) := Lib.hid (by rw [HNX.out]; have h := hr3.1; rw [nextC_len] at h; exact h)
      have HB3 : Hid (Below w.heap.size w w3) := Lib.hid (below_step HB.out hr3.2.1)
      have HF3 : Hid (∀ g, (Value.slice a3 32 c3).ownBlock = some g → w.heap.size ≤ g) := Lib.hid (fun g hg => Nat.le_trans HB.out.size (hr3.2.2 g hg))
      clear hr3 HCA
      go_wp2_with fail
      rw [HW2.out]
      refine ⟨⟨k + 1, a3, c3, by omega, rfl, rfl, HO3.out, HB3.out, HF3.out⟩, ?_⟩
      simp only [intOf]; omega
    · obtain rfl : k = n := by omega
      have c1 : ¬ (k : Int) < (k : Int) := by omega
      have HR := Lib.hid (show es.take k = es from List.take_of_length_le (by rw [HN.out]; exact Nat.le_refl _))
      rw [HR.out] at HO
      have HL := Lib.hid (headC_len (ersL es))
      clear hlt
      go_wp2_with fail
      go_ret
      refine ⟨a2, c2, ?_, ?_⟩
      · rw [HL.out]; rfl
      · rw [HL.out]; exact ⟨by rw [HL.out]; exact HO.out, HB.out, HF.out⟩

set_option maxHeartbeats 1000000 in
theorem few22_any (ao : Option Addr) (es : List EV) (n cap : Nat) (w : World) (hn : es.length = n) (h : EntAt w ao es) (hcap : n ≤ cap) (hm : cap ≤ maxLen) :
    Calls Try.prog 11 #[.slice ao n cap] w fun e w' => e = .returned (.bool (fewB (es.map (fun e => e.b.length)) 100 100000)) ∧ w = w' := by
  have HB := Lib.hid h
  have HN := Lib.hid hn
  obtain ⟨ls, hls⟩ : ∃ ls, ls = (es.map (fun o => o.b.length)).map (fun x => min x (100000 + 1)) := ⟨_, rfl⟩
  have hll : ls.length = n := by rw [hls]; simp [hn]
  have hmax : ∀ k, (ls.take k).sum ≤ k * (100000 + 1) := by
    intro k
    rw [hls, ← List.map_take]
    have := sum_min_bound ((es.map (fun o => o.b.length)).take k) 100000
    have e2 : ((es.map (fun o => o.b.length)).take k).length ≤ k := by simp; omega
    exact Nat.le_trans this (Nat.mul_le_mul_right _ e2)
  have hb : ∀ k, k ≤ 100 → (ls.take k).sum ≤ 1000001000 := by
    intro k hk
    have := hmax k
    have h3 : k * (100000 + 1) ≤ 1000 * 1000001 := Nat.mul_le_mul (by omega) (by omega)
    omega
  have HLS := Lib.hid hls
  have HLL := Lib.hid hll
  have HBD := Lib.hid hb
  unfold maxLen at hm
  clear h hn hls hll hmax hb
  go_enter Try.func11, Try.ntmps11
  go_wp2_with fail
  go_loop [3, 4] (fun t i => ∃ k : Nat, k ≤ n ∧ k ≤ 100 ∧ i = .int .i64 k ∧ t = .int .i64 ((ls.take k).sum : Nat)) (fun _ i => n - (intOf i).toNat)
  case atStart => exact ⟨0, Nat.zero_le _, Nat.zero_le _, rfl, rfl⟩
  case round =>
    obtain ⟨k, hk, hk2, rfl, rfl⟩ := hrel
    have hbd := HBD.out k hk2
    by_cases hlt : k < n
    · by_cases hlt2 : k < 100
      · have hkl : k < ls.length := by rw [HLL.out]; exact hlt
        have hkb : k < es.length := by rw [HN.out]; exact hlt
        obtain ⟨b, off, ha, hc0, hc⟩ := HB.out.at k hkb
        have HS := Lib.hid (sum_take_succ ls k hkl)
        have hmin : ls[k] = min es[k].b.length (100000 + 1) := by simp [HLS.out]
        have HMIN := Lib.hid hmin
        generalize ls[k] = m at *
        generalize es[k].b.length = z at *
        clear hmin hkl
        subst ha
        clear hc0
        generalize (ls.take k).sum = s at *
        have i1 : (k : Int) < (n : Int) := by omega
        have i2 : (k : Int) < (100 : Int) := by omega
        go_wp2
        go_round
        case rel => exact ⟨k + 1, by omega, by omega, by go_num, by rw [HS.out, HMIN.out]; congr 1; split <;> omega⟩
        case measure => simp [intOf]; omega
      · obtain rfl : 100 = k := by omega
        have HF := Lib.hid (show fewB (es.map (fun o => o.b.length)) 100 100000 = false by simp [fewB, HN.out]; omega)
        have i1 : (100 : Int) < (n : Int) := by omega
        have i2 : ¬ (n : Int) ≤ (100 : Int) := by omega
        clear hlt2
        go_wp2
        go_ret
        exact ⟨ret_bool HF.out.symm, rfl⟩
    · obtain rfl : k = n := by omega
      have i2 : (k : Int) ≤ (100 : Int) := by omega
      have HT : Hid ((ls.take k).sum = (((es.map (fun o => o.b.length)).take 100).map (fun x => min x (100000 + 1))).sum) := Lib.hid (by
        rw [List.take_of_length_le (by rw [HLL.out]; exact Nat.le_refl _), HLS.out, List.take_of_length_le (l := es.map _) (by simp [HN.out]; omega)])
      by_cases hs : (ls.take k).sum ≤ 100000
      · have HF := Lib.hid (show fewB (es.map (fun o => o.b.length)) 100 100000 = true by
          unfold fewB
          rw [← HT.out]
          simp [HN.out]; omega)
        generalize (ls.take k).sum = s at *
        have i3 : (s : Int) ≤ (100000 : Int) := by omega
        clear hlt
        go_wp2
        go_ret
        exact ⟨ret_bool HF.out.symm, rfl⟩
      · have HF := Lib.hid (show fewB (es.map (fun o => o.b.length)) 100 100000 = false by
          unfold fewB
          rw [← HT.out]
          simp [HN.out]; omega)
        generalize (ls.take k).sum = s at *
        have i3 : ¬ (s : Int) ≤ (100000 : Int) := by omega
        clear hlt
        go_wp2
        go_ret
        exact ⟨ret_bool HF.out.symm, rfl⟩

end Go.Proofs.Ytbhoakohpfdeoaa
