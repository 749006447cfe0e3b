/- Contract of cflref1's decoder: Bytes. -/
import Derived.Test.YtnohdbhkepdjbaaRefd2
namespace Go.Proofs.Ytnohdbhkepdjbaa
open Go.RowKit
set_option linter.unusedVariables false

theorem dec_back {T : TypeId} {w w' : World} {p g : Nat} {zs zs' : List Int} {e e' : Int} {ao : Option Addr} {cap : Nat} (h : DecAt T w p g zs e) (hc : w.cell? ⟨p, 0, none⟩ = some (.slice ao zs.length cap)) (h' : DecPost T w p g zs' e' w') :
    DecPost T w p g zs e' (w'.setCell ⟨p, 0, none⟩ (.slice ao zs.length cap)) := by
  obtain ⟨ao1, cap1, h1, h2, h3, h4, h5, h6, h7, h8⟩ := h
  have c0 := blk_cell h1 0
  simp only [List.getElem?_toArray, List.getElem?_cons_zero] at c0
  rw [hc] at c0
  simp only [Option.some.injEq, Value.slice.injEq, true_and] at c0
  obtain ⟨rfl, rfl⟩ := c0
  obtain ⟨⟨ao2, cap2, k1, _⟩, hK⟩ := h'
  refine ⟨⟨ao, cap, by simpa using blk_set k1 0 (.slice ao zs.length cap), ?_, h3, h4, h5, h6, h7, h8⟩, hK.setCell (p := ⟨p, 0, none⟩) (Or.inl rfl) _⟩
  rcases h7 with h7 | h7
  · exact Or.inl h7
  refine (h2.same (w' := w') (fun a ha hl => hK.block _ hl (by rw [h7 a ha]; exact h8))).same (fun a ha hl => Below.heap_setCell _ _ _ _ (by rw [h7 a ha]; exact h8))

def backF (zs : List Int) (r : List Int × List Int × Int) : List Int × List Int × Int := if r.2.2 = 0 then r else (r.1, zs, r.2.2)
theorem decBytes_ref (zs : List Int) (e : Int) (h : InB zs) : decBytes zs e = backF zs (decRaw (decNum zs e 2).2.1 (decNum zs e 2).2.2 (decNum zs e 2).1) := by
  by_cases he : e = 0
  · subst he
    by_cases hr : (numF zs 2).2 = 0
    · obtain ⟨hn1, hn2, hn3⟩ := num2_in zs h hr
      by_cases hl : (zs.length : Int) < 2 + (numF zs 2).1
      · have : (numF zs 2).1 < 0 ∨ (((zs.drop 2).length : Nat) : Int) < (numF zs 2).1 := Or.inr (by rw [List.length_drop]; omega)
        simp only [decBytes, decNum, decRaw, backF, hr, if_true, if_pos hl, Int.reduceToNat, if_pos this]
        simp
      · have : ¬ ((numF zs 2).1 < 0 ∨ (((zs.drop 2).length : Nat) : Int) < (numF zs 2).1) := by rw [List.length_drop]; omega
        simp only [decBytes, decNum, decRaw, backF, hr, if_true, if_neg hl, Int.reduceToNat, if_neg this, List.drop_drop]
    · simp [decBytes, decNum, decRaw, backF, hr]
  · simp [decBytes, decNum, decRaw, backF, he]

set_option maxHeartbeats 1000000 in
theorem refdec_bytes (p g : Nat) (zs : List Int) (e : Int) (w : World) (h : DecAt 52 w p g zs e) :
    Calls Try.prog 43 #[.pointer (some ⟨p, 0, none⟩)] w (BytesPost 52 w p g (decBytes zs e)) := by
  have h' := h
  obtain ⟨ao, cap, h1, h2, h3, h4, h5, h6, h7, h8⟩ := h'
  have c0 := blk_cell h1 0
  simp only [List.getElem?_toArray, List.getElem?_cons_zero] at c0
  have HD := Lib.hid (decBytes_ref zs e h5)
  have HN := Lib.hid (refdec_num p g zs e 2 w h)
  have HB := Lib.hid (fun (w' : World) (zs' : List Int) (e' : Int) => dec_back (w' := w') (zs' := zs') (e' := e') h c0)
  clear h h1 h2 h5 h7 h8
  rw [HD.out]
  generalize decNum zs e 2 = q at *
  obtain ⟨n, z1, e1⟩ := q
  clear HD
  go_enter Try.func43, Try.ntmps43
  go_wp2_with fail
  refine HN.out.mono ?_
  rintro en w1 ⟨rfl, hd1, hk1⟩
  have HR := Lib.hid (refdec_raw p g z1 e1 n w1 hd1)
  have HK := Lib.hid hk1
  clear hd1 hk1 HN
  generalize decRaw z1 e1 n = r at *
  obtain ⟨R, z2, e2⟩ := r
  go_wp2_with fail
  refine HR.out.mono ?_
  rintro en w2 ⟨⟨hd2, hk2⟩, ao2, cap2, rfl, ho2, hf2⟩
  have HD2 := Lib.hid hd2
  have HK2 := Lib.hid (show Keeps (fun k => k = p) w w2 from HK.out.trans hk2 (fun _ h => Or.inl h))
  have HO := Lib.hid ho2
  have HF := Lib.hid (show ∀ g', (Value.slice ao2 R.length cap2).ownBlock = some g' → w.heap.size ≤ g' from fun g' hg => Nat.le_trans HK.out.size (hf2 g' hg))
  have HFP := Lib.hid (show ∀ g', (Value.slice ao2 R.length cap2).ownBlock = some g' → g' ≠ p from fun g' hg => by
    have := HF.out g' hg
    intro he
    have : p < w.heap.size := World.block_lt_of_cell? w _ c0
    omega)
  obtain ⟨ao3, cap3, q1, _⟩ := hd2
  have k1 := blk_cell q1 1
  have k0 := blk_cell q1 0
  have k0f := blk_frozen q1 0
  simp only [List.getElem?_toArray, List.getElem?_cons_zero, List.getElem?_cons_succ] at k1 k0
  clear q1 hk2 ho2 hf2
  by_cases he2 : e2 = 0
  · subst he2
    go_wp2
    go_ret
    simp only [backF, if_true]
    exact ⟨⟨HD2.out, HK2.out⟩, ao2, cap2, rfl, HO.out, HF.out⟩
  · have he3 : (e2 != 0) = true := by simp [he2]
    have he4 : (e2 == 0) = false := by simp [he2]
    have HE := Lib.hid he2
    clear he2
    go_wp2
    go_ret
    simp only [backF, if_neg HE.out]
    exact ⟨HB.out _ _ _ ⟨HD2.out, HK2.out⟩, ao2, cap2, rfl, ownsRow_same HO.out (fun g' hg' => Below.heap_setCell _ _ _ _ (HFP.out g' hg')), HF.out⟩

end Go.Proofs.Ytnohdbhkepdjbaa
