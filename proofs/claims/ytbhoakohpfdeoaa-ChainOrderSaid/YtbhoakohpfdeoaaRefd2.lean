/- Contracts of cflref1's decoder: Raw, Bytes. -/
import Derived.Test.YtbhoakohpfdeoaaRefd
import Derived.Test.YtbhoakohpfdeoaaArgs
namespace Go.Proofs.Ytbhoakohpfdeoaa
open Go.RowKit
set_option linter.unusedVariables false

def decRaw (zs : List Int) (e n : Int) : List Int × List Int × Int :=
  if e = 0 then (if n < 0 ∨ (zs.length : Int) < n then ([], zs, 2) else (zs.take n.toNat, zs.drop n.toNat, 0)) else ([], zs, e)

set_option maxHeartbeats 2000000 in
theorem refdec_raw (p g : Nat) (zs : List Int) (e n : Int) (w : World) (h : DecAt 127 w p g zs e) :
    Calls Try.prog 73 #[.pointer (some ⟨p, 0, none⟩), .int .i64 n] w (BytesPost 127 w p g (decRaw zs e n)) := by
  have h' := h
  obtain ⟨ao, cap, h1, h2, h3, h4, h5, h6, h7, h8⟩ := h'
  have c0 := blk_cell h1 0
  have c1 := blk_cell h1 1
  have f0 := blk_frozen h1 0
  have f1 := blk_frozen h1 1
  simp only [List.getElem?_toArray, List.getElem?_cons_zero, List.getElem?_cons_succ] at c0 c1
  by_cases he : e = 0
  · subst he
    by_cases hn : 0 ≤ n ∧ n ≤ (zs.length : Int)
    · obtain ⟨m, rfl⟩ := Int.eq_ofNat_of_zero_le hn.1
      have hml : (m : Int) ≤ (zs.length : Int) := hn.2
      have hmc : (m : Int) ≤ (cap : Int) := by omega
      have HD := Lib.hid (show decRaw zs 0 m = (zs.take m, zs.drop m, 0) by simp [decRaw]; omega)
      have hlen : (zs.take m).length = m := by simp; omega
      have HC := Lib.hid (copyBytes ao (zs.take m) m cap w hlen (IntsAt.take h2 m) (by omega))
      have H := Lib.hid h
      have HL := Lib.hid hlen
      have hpl := DecAt.lt h
      unfold maxLen at h4
      clear h h1 h2 h5 h7 h8 hlen hn
      go_enter Try.func73, Try.ntmps73
      go_wp2_with fail
      refine HC.out.mono ?_
      rintro e w1 ⟨ao2, cap2, rfl, hr⟩
      obtain ⟨ho, hbl, hf⟩ := hr
      rw [HL.out] at ho hf
      rw [HL.out]
      have hd1 := H.out.keep (Keeps.of_below (S := fun _ => False) hbl) (fun f => f) (Or.inr (fun f => f))
      have hd1' := hd1
      obtain ⟨ao3, cap3, q1, q2, q3, q4, q5, q6, q7, q8⟩ := hd1'
      have k0 : w1.cell? ⟨p, 0, none⟩ = some (.slice ao zs.length cap) := (hbl.cell (p := ⟨p, 0, none⟩) hpl).trans c0
      have k0f := blk_frozen q1 0
      have HCUT := Lib.hid (fun ao' n' cap' hv hn' => bytes_done (R := zs.take m) hd1 hbl hpl ao2 cap2 HL.out ho hf m (by omega) ao' n' cap' hv hn')
      clear ho hf hbl hd1 q1 q2 q3 q4 q5 q6 q7 q8
      go_wp2
      all_goals
        go_ret
        rw [HD.out]
        refine HCUT.out _ _ _ (fun ao4 cap4 hc4 => ?_) (by omega)
        rw [k0] at hc4
        simp only [Option.some.injEq, Value.slice.injEq, true_and] at hc4
        obtain ⟨rfl, rfl⟩ := hc4
        first | exact Or.inr ⟨rfl, rfl⟩ | exact Or.inl ⟨by omega, rfl, by omega⟩
    · have HD := Lib.hid (show decRaw zs 0 n = ([], zs, 2) by simp [decRaw]; omega)
      have HP := Lib.hid (bytes_nil (dec_err h 2))
      have hs' : n < 0 ∨ (0 ≤ n ∧ (zs.length : Int) < n) := by omega
      clear h h1 h2 h5 h7 h8 hn
      rcases hs' with hs | ⟨hs, hs2⟩
      all_goals
        go_enter Try.func73, Try.ntmps73
        go_wp2
        go_ret
        rw [HD.out]; exact HP.out
  · have he' : (e == 0) = false := by simp [he]
    have he2 : (e != 0) = true := by simp [he]
    have HD := Lib.hid (show decRaw zs e n = ([], zs, e) by simp [decRaw, he])
    have HP := Lib.hid (bytes_nil (dec_refl h))
    clear h h1 h2 h5 h7 h8 he
    go_enter Try.func73, Try.ntmps73
    go_wp2
    go_ret
    rw [HD.out]; exact HP.out

end Go.Proofs.Ytbhoakohpfdeoaa
