/- Contracts of package req's reader: bytes, num. -/
import Derived.Test.YtadejcpifabpoaaDec4
import Derived.Test.YtadejcpifabpoaaReqe
namespace Go.Proofs.Ytadejcpifabpoaa
open Go.RowKit
set_option linter.unusedVariables false

/-- A reader: what was not read, and whether it lacked, in block p; the bytes lie elsewhere. -/
def InAt (T : TypeId) (w : World) (p g : Nat) (st : InS) : Prop :=
  ∃ ao cap, w.heap[p]? = some (.cells #[.slice ao st.1.length cap, .bool st.2] T (0, 0)) ∧ IntsAt .u8 w ao st.1 ∧ st.1.length ≤ cap ∧ cap ≤ maxLen ∧ InB st.1 ∧ st.1.length ≤ 140737488355328 ∧ (st.1 = [] ∨ ∀ a, ao = some a → a.block = g) ∧ g ≠ p ∧ g < w.heap.size
theorem InAt.keep {T : TypeId} {w w' : World} {p g : Nat} {st : InS} {S : Nat → Prop} (h : InAt T w p g st) (hk : Keeps S w w') (hp : ¬ S p) (hg : ¬ S g) : InAt T w' p g st := by
  obtain ⟨ao, cap, h1, h2, h3, h4, h5, h6, h7, h8, h9⟩ := h
  refine ⟨ao, cap, (hk.block p (blk_lt h1) hp).trans h1, ?_, h3, h4, h5, h6, h7, h8, Nat.lt_of_lt_of_le h9 hk.size⟩
  rcases h7 with h7 | h7
  · exact Or.inl h7
  · exact h2.same (fun a ha hl => hk.block _ hl (by rw [h7 a ha]; exact hg))
theorem InAt.lt {T : TypeId} {w : World} {p g : Nat} {st : InS} (h : InAt T w p g st) : p < w.heap.size := by
  obtain ⟨ao, cap, h1, _⟩ := h; exact blk_lt h1
theorem InAt.glt {T : TypeId} {w : World} {p g : Nat} {st : InS} (h : InAt T w p g st) : g < w.heap.size ∧ g ≠ p := by
  obtain ⟨ao, cap, h1, h2, h3, h4, h5, h6, h7, h8, h9⟩ := h; exact ⟨h9, h8⟩
theorem InAt.below {T : TypeId} {w w' : World} {p g : Nat} {st : InS} (h : InAt T w p g st) (hk : Below w.heap.size w w') : InAt T w' p g st := h.keep (S := fun _ => False) (Keeps.of_below hk) (fun f => f) (fun f => f)
theorem InAt.flag {T : TypeId} {w : World} {p g : Nat} {st : InS} (h : InAt T w p g st) (x : Bool) : InAt T (w.setCell ⟨p, 1, none⟩ (.bool x)) p g (st.1, x) := by
  obtain ⟨ao, cap, h1, h2, h3, h4, h5, h6, h7, h8, h9⟩ := h
  refine ⟨ao, cap, by simpa using blk_set h1 1 (.bool x), ?_, h3, h4, h5, h6, h7, h8, by simpa using h9⟩
  rcases h7 with h7 | h7
  · exact Or.inl h7
  · exact h2.same (fun a ha hl => Below.heap_setCell _ _ _ _ (by rw [h7 a ha]; exact h8))
theorem InAt.none_ {T : TypeId} {w : World} {p g : Nat} {st : InS} (h : InAt T w p g st) : InAt T ((w.setCell ⟨p, 0, none⟩ (.slice none 0 0)).setCell ⟨p, 1, none⟩ (.bool true)) p g ([], true) := by
  obtain ⟨ao, cap, h1, h2, h3, h4, h5, h6, h7, h8, h9⟩ := h
  have a1 := blk_set h1 0 (.slice none 0 0)
  have a2 := blk_set a1 1 (.bool true)
  exact ⟨none, 0, by simpa using a2, Or.inl rfl, Nat.le_refl _, Nat.zero_le _, (fun z hz => nomatch hz), Nat.zero_le _, Or.inl rfl, h8, by simpa using h9⟩
theorem InAt.cells {T : TypeId} {w : World} {p g : Nat} {st : InS} (h : InAt T w p g st) : ∃ ao cap, w.cell? ⟨p, 0, none⟩ = some (.slice ao st.1.length cap) ∧ w.cell? ⟨p, 1, none⟩ = some (.bool st.2) ∧ w.frozen? ⟨p, 0, none⟩ = false ∧ w.frozen? ⟨p, 1, none⟩ = false ∧ IntsAt .u8 w ao st.1 ∧ st.1.length ≤ cap ∧ cap ≤ maxLen := by
  obtain ⟨ao, cap, h1, h2, h3, h4, h5, h6, h7, h8, h9⟩ := h
  have c0 := blk_cell h1 0
  have c1 := blk_cell h1 1
  simp only [List.getElem?_toArray, List.getElem?_cons_zero, List.getElem?_cons_succ] at c0 c1
  exact ⟨ao, cap, c0, c1, blk_frozen h1 0, blk_frozen h1 1, h2, h3, h4⟩
theorem InAt.cut {T : TypeId} {w : World} {p g : Nat} {st : InS} (h : InAt T w p g st) (k : Nat) (hk : k ≤ st.1.length) (ao' : Option Addr) (n' cap' : Nat)
    (hv : ∀ ao cap, w.cell? ⟨p, 0, none⟩ = some (.slice ao st.1.length cap) → (k = cap ∧ ao' = ao ∧ cap' = 0) ∨ (ao' = ao.map (·.add k) ∧ cap' = cap - k)) (hn' : n' = st.1.length - k) :
    InAt T (w.setCell ⟨p, 0, none⟩ (.slice ao' n' cap')) p g (st.1.drop k, st.2) := by
  obtain ⟨ao, cap, h1, h2, h3, h4, h5, h6, h7, h8, h9⟩ := h
  have c0 := blk_cell h1 0
  simp only [List.getElem?_toArray, List.getElem?_cons_zero] at c0
  have hl : (st.1.drop k).length = n' := by simp [hn']
  have h5' : InB (st.1.drop k) := fun z hz => h5 z (List.mem_of_mem_drop hz)
  have h7' : st.1.drop k = [] ∨ ∀ a, ao' = some a → a.block = g := by
    rcases h7 with h7 | h7
    · exact Or.inl (by simp [h7])
    · refine Or.inr ?_
      rcases hv ao cap c0 with ⟨_, rfl, _⟩ | ⟨rfl, _⟩
      · exact h7
      · intro a ha
        cases hao : ao with
        | none => rw [hao] at ha; cases ha
        | some b =>
          rw [hao] at ha; simp at ha; subst ha
          have := h7 b hao
          unfold Addr.add; split <;> simp_all
  refine ⟨ao', cap', by rw [hl]; simpa using blk_set h1 0 (.slice ao' n' cap'), ?_, ?_, ?_, h5', by simp; omega, h7', h8, by simpa using h9⟩
  · rcases h7' with h7 | h7
    · exact Or.inl h7
    have h2' : IntsAt .u8 w ao' (st.1.drop k) := by
      rcases hv ao cap c0 with ⟨h, rfl, _⟩ | ⟨rfl, _⟩
      · exact Or.inl (by simp; omega)
      · rcases h2 with h2 | ⟨b, off, rfl, hc⟩
        · exact Or.inl (by rw [h2]; simp)
        · refine Or.inr ⟨b, off + k, by rw [Option.map_some, addr_add], fun i hi => ?_⟩
          simp only [List.length_drop] at hi
          rw [show off + k + i = off + (k + i) by omega, hc (k + i) (by omega)]
          simp [List.getD]
    exact h2'.same (fun a ha hl => Below.heap_setCell _ _ _ _ (by rw [h7 a ha]; exact h8))
  · rcases hv ao cap c0 with ⟨h, _, rfl⟩ | ⟨_, rfl⟩ <;> simp <;> omega
  · rcases hv ao cap c0 with ⟨h, _, rfl⟩ | ⟨_, rfl⟩ <;> omega

def BytesIn (w : World) (p g : Nat) (n : Nat) (st : InS) (e : Ending) (w' : World) : Prop :=
  ∃ ao cap, e = .returned (.slice ao n cap) ∧ (inBytes n st).1.length = n ∧ IntsAt .u8 w' ao (inBytes n st).1 ∧ InB (inBytes n st).1 ∧ n ≤ cap ∧ cap ≤ maxLen ∧ InAt 99 w' p g (inBytes n st).2 ∧ Keeps (fun k => k = p) w w'

set_option maxRecDepth 100000 in
set_option maxHeartbeats 1000000 in
theorem in_bytes (p g n : Nat) (st : InS) (w : World) (h : InAt 99 w p g st) (hn : n ≤ 1000000) :
    Calls Try.prog 94 #[.pointer (some ⟨p, 0, none⟩), .int .i64 n] w (BytesIn w p g n st) := by
  obtain ⟨ao, cap, c0, c1, f0, f1, h2, h3, h4⟩ := h.cells
  have H := Lib.hid h
  have hpl := h.lt
  by_cases hl : st.1.length < n
  · have HF := Lib.hid (show inBytes n st = (List.replicate n 0, ([], true)) by simp [inBytes, hl])
    have hi : (st.1.length : Int) < (n : Int) := by omega
    obtain ⟨i0, hi0, hz0, hz1, hz2⟩ := info_parts Try_infoU8
    have hk2 : Keeps (fun k => k = p) w ((w.setCell ⟨p, 0, none⟩ (.slice none 0 0)).setCell ⟨p, 1, none⟩ (.bool true)) := ((Keeps.refl (fun k => k = p) _).setCell (p := ⟨p, 0, none⟩) (Or.inl rfl) _).setCell (p := ⟨p, 1, none⟩) (Or.inl rfl) _
    obtain ⟨w', hr, hown, hgrow⟩ := run_make_full (P := Try.prog) ((w.setCell ⟨p, 0, none⟩ (.slice none 0 0)).setCell ⟨p, 1, none⟩ (.bool true)) 0 41 5 i0 (.int .u8 0) 1 Try.underlying41 hi0 hz0 hz1 .i64 .i64 n (by rw [hz2]; omega) (by unfold maxLen; omega) (Nat.zero_le _)
    have HP : Hid (BytesIn w p g n st (.returned (.slice (some ⟨w.heap.size, 0, none⟩) n n)) w') := Lib.hid (by
      rw [show ((w.setCell ⟨p, 0, none⟩ (.slice none 0 0)).setCell ⟨p, 1, none⟩ (.bool true)).heap.size = w.heap.size by simp] at hown
      have e : (madeCells (Value.int .u8 0).cells (n * 1)).toList = (List.replicate n (0 : Int)).map (Value.int .u8) := by
        have e2 : (Value.int .u8 0).cells = #[.int .u8 0] := rfl
        rw [e2, toList_madeCells_one, Nat.mul_one, List.map_replicate]
      rw [e] at hown
      obtain ⟨_, g2, g3, g4⟩ := owns_at hown
      have hbl : Below ((w.setCell ⟨p, 0, none⟩ (.slice none 0 0)).setCell ⟨p, 1, none⟩ (.bool true)).heap.size ((w.setCell ⟨p, 0, none⟩ (.slice none 0 0)).setCell ⟨p, 1, none⟩ (.bool true)) w' := (Below.refl _ _).grown hgrow (Nat.le_refl _) (fun k hk => by cases hk)
      have hin := H.out.none_.below hbl
      refine ⟨_, n, rfl, ?_⟩
      rw [HF.out]
      refine ⟨by simp, g2, fun z hz => ?_, Nat.le_refl _, g4, hin, hk2.trans (Keeps.of_below (S := fun _ => False) hbl) (fun _ f => f.elim)⟩
      have := List.eq_of_mem_replicate hz
      omega)
    clear h h2 hown hgrow hk2
    go_enter Try.func94, Try.ntmps94
    go_wp2
    go_ret
    exact HP.out
  · have HF := Lib.hid (show inBytes n st = (st.1.take n, (st.1.drop n, st.2)) by simp [inBytes, hl])
    have hi : ¬ (st.1.length : Int) < (n : Int) := by omega
    have hle : (n : Int) ≤ (st.1.length : Int) := by omega
    have hle2 : (n : Int) ≤ (cap : Int) := by omega
    have HI := Lib.hid h2
    clear h h2
    go_enter Try.func94, Try.ntmps94
    go_wp2
    all_goals
      go_ret
      refine ⟨_, _, rfl, ?_⟩
      rw [HF.out]
      have hin : InB st.1 := by obtain ⟨_, _, _, _, _, _, h5, _⟩ := H.out; exact h5
      have h7 : st.1 = [] ∨ ∀ a, ao = some a → a.block ≠ p := by
        obtain ⟨ao3, cap3, g1, _, _, _, _, _, g7, g8, _⟩ := H.out
        have c3 := blk_cell g1 0
        simp only [List.getElem?_toArray, List.getElem?_cons_zero] at c3
        rw [c0] at c3
        simp only [Option.some.injEq, Value.slice.injEq, true_and] at c3
        rw [c3.1]; exact g7.imp id (fun f a ha => by rw [f a ha]; exact g8)
      refine ⟨by simp; omega, ?_, fun z hz => hin z (List.mem_of_mem_take hz), by omega, by first | exact h4 | omega, H.out.cut n (by omega) _ _ _ (fun ao2 cap2 hc2 => by
        rw [c0] at hc2
        simp only [Option.some.injEq, Value.slice.injEq, true_and] at hc2
        obtain ⟨rfl, rfl⟩ := hc2
        first | exact Or.inr ⟨rfl, rfl⟩ | exact Or.inl ⟨by omega, rfl, rfl⟩) rfl, (Keeps.refl (fun k => k = p) _).setCell (p := ⟨p, 0, none⟩) (Or.inl rfl) _⟩
      have h8 : IntsAt .u8 w ao (st.1.take n) := by
        rcases HI.out with h | ⟨b, off, h1, hc⟩
        · exact Or.inl (by rw [h]; simp)
        · refine Or.inr ⟨b, off, h1, fun i hi => ?_⟩
          simp only [List.length_take] at hi
          rw [hc i (by omega)]
          simp [List.getD, show i < n by omega]
      rcases h7 with h7 | h7
      · exact Or.inl (by rw [h7]; simp)
      · exact h8.same (fun a ha hl => Below.heap_setCell _ _ _ _ (h7 a ha))

end Go.Proofs.Ytadejcpifabpoaa
