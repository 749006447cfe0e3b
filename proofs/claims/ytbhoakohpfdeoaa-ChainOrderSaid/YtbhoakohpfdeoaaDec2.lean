/- Contracts of package wire's decoder: NewDec, Num, Bytes, Left, Err, End. -/
import Derived.Test.YtbhoakohpfdeoaaDec
namespace Go.Proofs.Ytbhoakohpfdeoaa
open Go.RowKit
set_option linter.unusedVariables false

/-- A decoder: what was not read, and the error, in block p; the bytes lie in block g, which it does not write. -/
def DecAt (T : TypeId) (w : World) (p g : Nat) (zs : List Int) (e : Int) : Prop :=
  ∃ ao cap, w.heap[p]? = some (.cells #[.slice ao zs.length cap, .int .i64 e] T (0, 0)) ∧ IntsAt .u8 w ao zs ∧ zs.length ≤ cap ∧ cap ≤ maxLen ∧ InB zs ∧ zs.length ≤ 140737488355328 ∧ (zs = [] ∨ ∀ a, ao = some a → a.block = g) ∧ g ≠ p
def DecPost (T : TypeId) (w : World) (p g : Nat) (zs : List Int) (e : Int) (w' : World) : Prop := DecAt T w' p g zs e ∧ Keeps (fun k => k = p) w w'
def decNum (zs : List Int) (e size : Int) : Int × List Int × Int :=
  if e = 0 then (if (numF zs size).2 = 0 then ((numF zs size).1, zs.drop size.toNat, 0) else (0, zs, (numF zs size).2)) else (0, zs, e)

theorem DecAt.keep {T : TypeId} {w w' : World} {p g : Nat} {zs : List Int} {e : Int} {S : Nat → Prop} (h : DecAt T w p g zs e) (hk : Keeps S w w') (hp : ¬ S p) (hg : zs = [] ∨ ¬ S g) : DecAt T w' p g zs e := by
  obtain ⟨ao, cap, h1, h2, h3, h4, h5, h6, h7, h8⟩ := h
  refine ⟨ao, cap, (hk.block p (blk_lt h1) hp).trans h1, ?_, h3, h4, h5, h6, h7, h8⟩
  rcases hg with hg | hg
  · exact Or.inl hg
  · rcases h7 with h7 | h7
    · exact Or.inl h7
    · exact h2.same (fun a ha hl => hk.block _ hl (by rw [h7 a ha]; exact hg))
theorem DecAt.lt {T : TypeId} {w : World} {p g : Nat} {zs : List Int} {e : Int} (h : DecAt T w p g zs e) : p < w.heap.size := by
  obtain ⟨ao, cap, h1, _⟩ := h; exact blk_lt h1
theorem DecAt.glt {T : TypeId} {w : World} {p g : Nat} {zs : List Int} {e : Int} (h : DecAt T w p g zs e) : zs = [] ∨ g < w.heap.size := by
  obtain ⟨ao, cap, h1, h2, h3, h4, h5, h6, h7, h8⟩ := h
  rcases h2 with h | ⟨b, off, rfl, hc⟩
  · exact Or.inl h
  · by_cases h0 : zs = []
    · exact Or.inl h0
    · have := World.block_lt_of_cell? w _ (hc 0 (List.length_pos_iff.2 h0))
      rcases h7 with h7 | h7
      · exact Or.inl h7
      · have e := h7 _ rfl
        exact Or.inr (by rw [← e]; exact this)
theorem dec_err {T : TypeId} {w : World} {p g : Nat} {zs : List Int} {e : Int} (h : DecAt T w p g zs e) (e' : Int) : DecPost T w p g zs e' (w.setCell ⟨p, 1, none⟩ (.int .i64 e')) := by
  obtain ⟨ao, cap, h1, h2, h3, h4, h5, h6, h7, h8⟩ := h
  refine ⟨⟨ao, cap, by simpa using blk_set h1 1 (.int .i64 e'), by rcases h7 with h7 | h7; exact Or.inl h7; exact h2.same (fun a ha hl => Below.heap_setCell _ _ _ _ (by rw [h7 a ha]; exact h8)), h3, h4, h5, h6, h7, h8⟩, (Keeps.refl (fun k => k = p) _).setCell (p := ⟨p, 1, none⟩) (Or.inl rfl) _⟩
theorem dec_refl {T : TypeId} {w : World} {p g : Nat} {zs : List Int} {e : Int} (h : DecAt T w p g zs e) : DecPost T w p g zs e w := ⟨h, Keeps.refl _ _⟩
theorem dec_cut {T : TypeId} {w : World} {p g : Nat} {zs : List Int} {e : Int} (h : DecAt T w p g zs e) (k : Nat) (hk : k ≤ zs.length) (ao' : Option Addr) (n' cap' : Nat)
    (hv : ∀ ao cap, w.cell? ⟨p, 0, none⟩ = some (.slice ao zs.length cap) → (k = cap ∧ ao' = ao ∧ cap' = 0) ∨ (ao' = ao.map (·.add k) ∧ cap' = cap - k)) (hn' : n' = zs.length - k) :
    DecPost T w p g (zs.drop k) e (w.setCell ⟨p, 0, none⟩ (.slice ao' n' cap')) := by
  obtain ⟨ao, cap, h1, h2, h3, h4, h5, h6, h7, h8⟩ := h
  have c0 := blk_cell h1 0
  simp only [List.getElem?_toArray, List.getElem?_cons_zero] at c0
  have hl : (zs.drop k).length = n' := by simp [hn']
  have h5' : InB (zs.drop k) := fun z hz => h5 z (List.mem_of_mem_drop hz)
  refine ⟨⟨ao', cap', by rw [hl]; simpa using blk_set h1 0 (.slice ao' n' cap'), ?_, ?_, ?_, h5', by simp; omega, ?_, h8⟩, (Keeps.refl (fun k => k = p) _).setCell (p := ⟨p, 0, none⟩) (Or.inl rfl) _⟩
  · rcases h7 with h7 | h7
    · exact Or.inl (by simp [h7])
    have hsame : ∀ a, ao' = some a → a.block = g := by
      rcases hv ao cap c0 with ⟨_, rfl, _⟩ | ⟨rfl, _⟩
      · exact h7
      · intro a ha
        cases hao : ao with
        | none => rw [hao] at ha; cases ha
        | some b =>
          rw [hao] at ha; simp at ha; subst ha
          have := h7 b hao
          unfold Addr.add; split <;> simp_all
    have h2' : IntsAt .u8 w ao' (zs.drop k) := by
      rcases hv ao cap c0 with ⟨h, rfl, _⟩ | ⟨rfl, _⟩
      · exact Or.inl (by simp; omega)
      · rcases h2 with rfl | ⟨b, off, rfl, hc⟩
        · exact Or.inl (by simp)
        · refine Or.inr ⟨b, off + k, by rw [Option.map_some, addr_add], fun i hi => ?_⟩
          simp only [List.length_drop] at hi
          rw [show off + k + i = off + (k + i) by omega, hc (k + i) (by omega)]
          simp [List.getD]
    exact h2'.same (fun a ha hl => Below.heap_setCell _ _ _ _ (by rw [hsame a ha]; exact h8))
  · rcases hv ao cap c0 with ⟨h, _, rfl⟩ | ⟨_, rfl⟩ <;> simp <;> omega
  · rcases hv ao cap c0 with ⟨h, _, rfl⟩ | ⟨_, rfl⟩ <;> omega
  · rcases h7 with h7 | h7
    · exact Or.inl (by simp [h7])
    refine Or.inr ?_
    rcases hv ao cap c0 with ⟨_, rfl, _⟩ | ⟨rfl, _⟩
    · exact h7
    · intro a ha
      cases hao : ao with
      | none => rw [hao] at ha; cases ha
      | some b =>
        rw [hao] at ha; simp at ha; subst ha
        have := h7 b hao
        unfold Addr.add; split <;> simp_all

def NumPost (T : TypeId) (w : World) (p g : Nat) (r : Int × List Int × Int) (e : Ending) (w' : World) : Prop := e = .returned (.int .i64 r.1) ∧ DecPost T w p g r.2.1 r.2.2 w'

set_option maxHeartbeats 1000000 in
theorem dec_num (p g : Nat) (zs : List Int) (e size : Int) (w : World) (h : DecAt 142 w p g zs e) :
    Calls Try.prog 72 #[.pointer (some ⟨p, 0, none⟩), .int .i64 size] w (NumPost 142 w p g (decNum zs e size)) := by
  have h' := h
  obtain ⟨ao, cap, h1, h2, h3, h4, h5, h6, h7, h8⟩ := h'
  have c0 := blk_cell h1 0
  have c1 := blk_cell h1 1
  have f0 := blk_frozen h1 0
  have f1 := blk_frozen h1 1
  simp only [List.getElem?_toArray, List.getElem?_cons_zero, List.getElem?_cons_succ] at c0 c1
  by_cases he : e = 0
  · subst he
    have HN := Lib.hid (number_any ao zs zs.length cap size w rfl h2 h5 h3)
    by_cases hr : (numF zs size).2 = 0
    · have HD := Lib.hid (show decNum zs 0 size = ((numF zs size).1, zs.drop size.toNat, 0) by simp [decNum, hr])
      have hsz : ∃ s : Nat, size = s ∧ s ≤ zs.length := by
        unfold numF at hr
        split at hr
        · rename_i hm
          simp only [mayB, decide_eq_true_eq] at hm
          split at hr
          · simp at hr
          · exact ⟨size.toNat, by omega, by omega⟩
        · simp at hr
      obtain ⟨s, rfl, hs⟩ := hsz
      have HC := Lib.hid (fun ao' n' cap' hv hn' => dec_cut h s hs ao' n' cap' hv hn')
      have hi1 : (0 : Int) ≤ (s : Int) := by omega
      have hi2 : (s : Int) ≤ (zs.length : Int) := by omega
      generalize numF zs (s : Int) = r at *
      obtain ⟨r1, r2⟩ := r
      simp only at hr
      subst hr
      clear h h1 h2 h5 h7 h8
      go_enter Try.func72, Try.ntmps72
      go_wp2_with fail
      refine HN.out.mono ?_
      rintro e w1 ⟨rfl, rfl⟩
      go_wp2
      all_goals
        go_ret
        refine ⟨ret_int (congrArg Prod.fst HD.out).symm, ?_⟩
        rw [HD.out]
        refine HC.out _ _ _ (fun ao2 cap2 hc2 => ?_) (by omega)
        rw [c0] at hc2
        simp only [Option.some.injEq, Value.slice.injEq, true_and] at hc2
        obtain ⟨rfl, rfl⟩ := hc2
        first | exact Or.inr ⟨rfl, rfl⟩ | exact Or.inl ⟨by omega, rfl, by omega⟩
    · have HD := Lib.hid (show decNum zs 0 size = (0, zs, (numF zs size).2) by simp [decNum, hr])
      have HP := Lib.hid (dec_err h (numF zs size).2)
      generalize numF zs size = r at *
      obtain ⟨r1, r2⟩ := r
      have hr' : (r2 != 0) = true := by simpa using hr
      clear h h1 h2 h5 h7 h8 hr
      go_enter Try.func72, Try.ntmps72
      go_wp2_with fail
      refine HN.out.mono ?_
      rintro e w1 ⟨rfl, rfl⟩
      go_wp2
      go_ret
      exact ⟨ret_int (congrArg Prod.fst HD.out).symm, by rw [HD.out]; exact HP.out⟩
  · have he' : (e != 0) = true := by simp [he]
    have HD := Lib.hid (show decNum zs e size = (0, zs, e) by simp [decNum, he])
    have HP := Lib.hid (dec_refl h)
    clear h h1 h2 h5 h7 h8 he
    go_enter Try.func72, Try.ntmps72
    go_wp2
    go_ret
    exact ⟨ret_int (congrArg Prod.fst HD.out).symm, by rw [HD.out]; exact HP.out⟩

end Go.Proofs.Ytbhoakohpfdeoaa
