/- Contracts of package wire's encoder: Clone, Done, Bytes; of cflref.Bytes. -/
import Derived.Test.YtbhoakohpfdeoaaEnc
namespace Go.Proofs.Ytbhoakohpfdeoaa
open Go.RowKit
set_option linter.unusedVariables false

def doneB (bs : List Int) (e : Int) : List Int := if e = 0 then bs else []

set_option maxHeartbeats 1000000 in
theorem enc_done (p : Nat) (v : Value) (bs : List Int) (e : Int) (w : World) (h : EncAt 138 w p v bs e) (hlen : bs.length ≤ 140737488355328) :
    Calls Try.prog 52 #[.pointer (some ⟨p, 0, none⟩)] w fun en w' => RowPost2 w (doneB bs e) e en w' := by
  obtain ⟨hp, hown, hne⟩ := h
  have c0 := blk_cell hp 0
  have c1 := blk_cell hp 1
  simp only [List.getElem?_toArray, List.getElem?_cons_zero, List.getElem?_cons_succ] at c0 c1
  by_cases he : e = 0
  · subst he
    obtain ⟨ao, cap, rfl⟩ : ∃ ao cap, v = .slice ao bs.length cap := by
      rcases hown.2 with ⟨hv, hn⟩ | ⟨g, cap, cur, hv, _⟩
      · exact ⟨none, 0, by rw [hv, hn]⟩
      · exact ⟨_, cap, hv⟩
    have HC := Lib.hid (clone_u8 ao bs bs.length cap w rfl (owns_at hown).2.1 hlen)
    clear hp hown hne
    go_enter Try.func52, Try.ntmps52
    go_wp2_with fail
    refine HC.out.mono ?_
    rintro e w1 ⟨ao', cap', rfl, hr⟩
    have HR := Lib.hid hr
    clear hr HC
    go_wp2
    go_ret2
    exact ⟨ao', cap', by simp [doneB], by simpa [doneB] using HR.out⟩
  · have he' : (e != 0) = true := by simp [he]
    have HD := Lib.hid (show doneB bs e = [] by simp [doneB, he])
    clear he hp hown hne
    go_enter Try.func52, Try.ntmps52
    go_wp2
    go_quiet (fail)
    go_wp2
    go_ret2
    rw [HD.out]
    exact ⟨none, 0, rfl, World.ownsRow_nil _ _ _ _, by repeat (first | exact Below.refl _ _ | exact Keeps.below ((Keeps.refl (fun _ => False) _).drewN _) (Nat.le_refl _) (fun _ f => f.elim)), fun g hg => by cases hg⟩

def encBytes (bs : List Int) (e : Int) (zs : List Int) : List Int × Int :=
  if e = 0 then (if 65535 < zs.length then (bs, 3) else (bs ++ putB zs.length 2 ++ zs, 0)) else (bs, e)
theorem fits_len (n : Nat) (h : n ≤ 65535) : fitsB n 2 = true := by
  have h1 : amtB (n : Int) = true := (amt_iff _).2 ⟨by omega, by unfold MA; omega⟩
  have h2 : (n : Int) / 2 ^ (8 * (2 : Int).toNat) ≤ 0 := by
    show (n : Int) / 65536 ≤ 0
    omega
  simp [fitsB, h1]
  exact ⟨by decide, by omega⟩
theorem encNum_len (bs : List Int) (n : Nat) (h : n ≤ 65535) : encNum bs 0 n 2 = (bs ++ putB n 2, 0) := by simp [encNum, fits_len n h]


end Go.Proofs.Ytbhoakohpfdeoaa
