/- Contracts of package wire's decoder: Bytes, NewDec, Left, Err, End. -/
import Derived.Test.YtnohdbhkepdjbaaDec2
namespace Go.Proofs.Ytnohdbhkepdjbaa
open Go.RowKit
set_option linter.unusedVariables false

def decBytes (zs : List Int) (e : Int) : List Int × List Int × Int :=
  if e = 0 then (if (numF zs 2).2 = 0 then (if (zs.length : Int) < 2 + (numF zs 2).1 then ([], zs, 2) else ((zs.drop 2).take (numF zs 2).1.toNat, zs.drop (2 + (numF zs 2).1.toNat), 0)) else ([], zs, (numF zs 2).2)) else ([], zs, e)
def BytesPost (T : TypeId) (w : World) (p g : Nat) (r : List Int × List Int × Int) (e : Ending) (w' : World) : Prop :=
  DecPost T w p g r.2.1 r.2.2 w' ∧ ∃ ao cap, e = .returned (.slice ao r.1.length cap) ∧ w'.ownsRow 0 5 1 (.slice ao r.1.length cap) r.1.length (r.1.map (Value.int .u8)) ∧ ∀ g', (Value.slice ao r.1.length cap).ownBlock = some g' → w.heap.size ≤ g'
theorem num2_in (zs : List Int) (h : InB zs) (h2 : (numF zs 2).2 = 0) : 0 ≤ (numF zs 2).1 ∧ (numF zs 2).1 < 65536 ∧ 2 ≤ zs.length := by
  unfold numF at *
  split at h2
  · split at h2
    · simp at h2
    · split at h2
      · simp at h2
      · rename_i a b c
        rw [if_pos a, if_neg b, if_neg c]
        have := valB_in (zs.take (2 : Int).toNat) (fun z hz => h z (List.mem_of_mem_take hz))
        have hl : (zs.take (2 : Int).toNat).length = 2 := by simp; omega
        rw [hl] at this
        have e : (256 : Int) ^ 2 = 65536 := by decide
        rw [e] at this
        exact ⟨this.1, this.2, by omega⟩
  · simp at h2
theorem bytes_nil {T : TypeId} {w : World} {p g : Nat} {zs : List Int} {e : Int} {w' : World} (h : DecPost T w p g zs e w') : BytesPost T w p g ([], zs, e) (.returned (.slice none 0 0)) w' :=
  ⟨h, none, 0, rfl, World.ownsRow_nil _ _ _ _, fun g hg => by cases hg⟩

theorem bytes_done {T : TypeId} {w w1 : World} {p g : Nat} {zs R : List Int} {m : Nat} (h : DecAt T w1 p g zs 0) (hbl : Below w.heap.size w w1) (hpl : p < w.heap.size) (ao2 : Option Addr) (cap2 : Nat) (hR : R.length = m)
    (ho : w1.ownsRow 0 5 1 (.slice ao2 m cap2) m (R.map (Value.int .u8))) (hf : ∀ g', (Value.slice ao2 m cap2).ownBlock = some g' → w.heap.size ≤ g')
    (k : Nat) (hk : k ≤ zs.length) (ao' : Option Addr) (n' cap' : Nat)
    (hv : ∀ ao cap, w1.cell? ⟨p, 0, none⟩ = some (.slice ao zs.length cap) → (k = cap ∧ ao' = ao ∧ cap' = 0) ∨ (ao' = ao.map (·.add k) ∧ cap' = cap - k)) (hn' : n' = zs.length - k) :
    BytesPost T w p g (R, zs.drop k, 0) (.returned (.slice ao2 m cap2)) (w1.setCell ⟨p, 0, none⟩ (.slice ao' n' cap')) := by
  have hcut := dec_cut h k hk ao' n' cap' hv hn'
  subst hR
  exact ⟨⟨hcut.1, (Keeps.of_below hbl).trans hcut.2 (fun _ h => Or.inl h)⟩, ao2, cap2, rfl,
    ownsRow_same ho (fun g' hg' => Below.heap_setCell _ _ _ _ (by have := hf g' hg'; show g' ≠ p; omega)), hf⟩

set_option maxHeartbeats 1000000 in
set_option maxRecDepth 100000 in
theorem dec_bytes (p g : Nat) (zs : List Int) (e : Int) (w : World) (h : DecAt 72 w p g zs e) :
    Calls Try.prog 42 #[.pointer (some ⟨p, 0, none⟩)] w (BytesPost 72 w p g (decBytes zs e)) := by
  have h' := h
  obtain ⟨ao, cap, h1, h2, h3, h4, h5, h6, h7, h8⟩ := h'
  have c0 := blk_cell h1 0
  have c1 := blk_cell h1 1
  have f0 := blk_frozen h1 0
  have f1 := blk_frozen h1 1
  simp only [List.getElem?_toArray, List.getElem?_cons_zero, List.getElem?_cons_succ] at c0 c1
  by_cases he : e = 0
  · subst he
    have HN := Lib.hid (number_any ao zs zs.length cap 2 w rfl h2 h5 h3)
    by_cases hr : (numF zs 2).2 = 0
    · obtain ⟨hn1, hn2, hn3⟩ := num2_in zs h5 hr
      by_cases hl : (zs.length : Int) < 2 + (numF zs 2).1
      · have HD := Lib.hid (show decBytes zs 0 = ([], zs, 2) by simp [decBytes, hr, hl])
        have HP := Lib.hid (bytes_nil (dec_err h 2))
        generalize numF zs 2 = r at *
        obtain ⟨r1, r2⟩ := r
        simp only at hr hn1 hn2 hl
        subst hr
        clear h h1 h2 h5 h7 h8
        go_enter Try.func42, Try.ntmps42
        go_wp2_with fail
        refine HN.out.mono ?_
        rintro e w1 ⟨rfl, rfl⟩
        go_wp2
        go_ret
        rw [HD.out]; exact HP.out
      · have HD := Lib.hid (show decBytes zs 0 = ((zs.drop 2).take (numF zs 2).1.toNat, zs.drop (2 + (numF zs 2).1.toNat), 0) by simp [decBytes, hr, hl])
        generalize numF zs 2 = r at *
        obtain ⟨r1, r2⟩ := r
        simp only at hr hn1 hn2 hl
        subst hr
        obtain ⟨m, rfl⟩ := Int.eq_ofNat_of_zero_le hn1
        simp only [Int.toNat_natCast] at HD
        have hlen : ((zs.drop 2).take m).length = m := by simp; omega
        have HC := Lib.hid (fun (ao' : Option Addr) (cap' : Nat) (hh : IntsAt .u8 w ao' ((zs.drop 2).take m)) => clone_u8 ao' ((zs.drop 2).take m) m cap' w hlen hh (by omega))
        have H := Lib.hid h
        have HL := Lib.hid hlen
        have hcz : (zs.length : Int) ≤ (cap : Int) := by omega
        have hpl := DecAt.lt h
        rcases h2 with hz | ⟨b, off, rfl, hcc⟩
        · rw [hz] at hn3; simp at hn3
        have HI : Hid (IntsAt .u8 w (some ⟨b, off + 2, none⟩) ((zs.drop 2).take m)) := Lib.hid (by
          refine Or.inr ⟨b, off + 2, rfl, fun i hi => ?_⟩
          simp only [List.length_take, List.length_drop] at hi
          rw [show off + 2 + i = off + (2 + i) by omega, hcc (2 + i) (by omega)]
          simp [List.getD, show i < m by omega])
        have hl2 : (2 : Int) + (m : Int) ≤ (zs.length : Int) := by omega
        have hl3 : (2 : Int) + (m : Int) ≤ (cap : Int) := by omega
        unfold maxLen at h4
        have hsum : ((2 : Int) + (m : Int)).toNat = 2 + m := by omega
        clear h h1 hcc h5 h7 h8 hlen hn1 hn2 hl
        go_enter Try.func42, Try.ntmps42
        go_wp2_with fail
        refine HN.out.mono ?_
        rintro e w1 ⟨rfl, rfl⟩
        go_wp2_with fail
        all_goals
          refine (HC.out _ _ (by first | exact HI.out | (refine Or.inl (List.eq_nil_of_length_eq_zero ?_); have := HL.out; omega))).mono ?_
          rintro e w1 ⟨ao2, cap2, rfl, hr⟩
          obtain ⟨ho, hbl, hf⟩ := hr
          rw [HL.out] at ho hf
          rw [HL.out]
          have hd1 := H.out.keep (Keeps.of_below (S := fun _ => False) hbl) (fun f => f) (Or.inr (fun f => f))
          have hd1' := hd1
          obtain ⟨ao3, cap3, q1, q2, q3, q4, q5, q6, q7, q8⟩ := hd1'
          have k0 : w1.cell? ⟨p, 0, none⟩ = some (.slice (some ⟨b, off, none⟩) zs.length cap) := (hbl.cell (p := ⟨p, 0, none⟩) hpl).trans c0
          have k0f := blk_frozen q1 0
          have HCUT := Lib.hid (fun ao' n' cap' hv hn' => bytes_done (R := (zs.drop 2).take m) hd1 hbl hpl ao2 cap2 HL.out ho hf (2 + m) (by omega) ao' n' cap' hv hn')
          clear ho hf hbl hd1 q1 q2 q3 q4 q5 q6 q7 q8
          go_wp2
          all_goals
            go_ret
            rw [HD.out]
            refine HCUT.out _ _ _ (fun ao4 cap4 hc4 => ?_) (by omega)
            rw [k0] at hc4
            simp only [Option.some.injEq, Value.slice.injEq, true_and] at hc4
            obtain ⟨rfl, rfl⟩ := hc4
            first | exact Or.inr ⟨by simp [addr_add], rfl⟩ | exact Or.inl ⟨by omega, rfl, by omega⟩
    · have HD := Lib.hid (show decBytes zs 0 = ([], zs, (numF zs 2).2) by simp [decBytes, hr])
      have HP := Lib.hid (bytes_nil (dec_err h (numF zs 2).2))
      generalize numF zs 2 = r at *
      obtain ⟨r1, r2⟩ := r
      have hr' : (r2 != 0) = true := by simpa using hr
      have hr2 : (r2 == 0) = false := by simpa using hr
      clear h h1 h2 h5 h7 h8 hr
      go_enter Try.func42, Try.ntmps42
      go_wp2_with fail
      refine HN.out.mono ?_
      rintro e w1 ⟨rfl, rfl⟩
      go_wp2
      go_ret
      rw [HD.out]; exact HP.out
  · have he' : (e != 0) = true := by simp [he]
    have HD := Lib.hid (show decBytes zs e = ([], zs, e) by simp [decBytes, he])
    have HP := Lib.hid (bytes_nil (dec_refl h))
    clear h h1 h2 h5 h7 h8 he
    go_enter Try.func42, Try.ntmps42
    go_wp2
    go_ret
    rw [HD.out]; exact HP.out

end Go.Proofs.Ytnohdbhkepdjbaa
