/- Contracts of package wire's encoder: Clone, Done, Bytes; of cflref.Bytes. -/
import Derived.Test.YtadejcpifabpoaaEnc
namespace Go.Proofs.Ytadejcpifabpoaa
open Go.RowKit
set_option linter.unusedVariables false

set_option maxHeartbeats 1000000 in
theorem clone_u8 (ao : Option Addr) (zs : List Int) (n cap : Nat) (w : World) (hn : zs.length = n) (h : IntsAt .u8 w ao zs) (hm : n ≤ 140737488355328) :
    Calls Try.prog 104 #[.slice ao n cap] w fun e w' => RowPost w zs e w' := by
  have heq := fun w : World => Lib.run_eql_slice_nil (P := Try.prog) w 41 5 ao n cap 0 0 Try.underlying41
  have HN := Lib.hid hn
  have H := Lib.hid h
  clear hn
  cases ao with
  | none =>
    have h0 := ints_none h
    clear h
    go_enter Try.func104, Try.ntmps104
    go_wp2
    go_ret
    exact ⟨none, 0, ret_val (a := .slice none 0 0) (by rw [h0]), by rw [h0, List.length_eq_zero_iff.1 h0]; exact ⟨World.ownsRow_nil _ _ _ _, Below.refl _ _, fun g hg => by cases hg⟩⟩
  | some a =>
    obtain ⟨i0, hi, hz0, hz1, hz2⟩ := info_parts Try_infoU8
    clear h
    go_enter Try.func104, Try.ntmps104
    go_wp2_with (at_builtin; refine wpList_append_any rfl _ _ 41 rfl 5 i0 (.int .u8 0) 1 1 Try.underlying41 hi hz0 hz1 hz2 rfl (by decide) (.slice (some ⟨w.heap.size, 0, none⟩) 0 0) 0 [] rfl (World.ownsRow_made w #[] 0 (Nat.zero_le _) (Nat.zero_le _) rfl) (some a) n cap (zs.map (Value.int .u8)) rfl ?c1 ?c2 ?c3 (ints_one _ _) ?c5 ?c6 ?_)
    case c1 => simp; exact HN.out
    case c2 => intro e; cases e
    case c3 => exact src_ints (ints_below H.out ((Below.refl _ _).alloc (Nat.le_refl _) _))
    case c5 => unfold maxLen; omega
    case c6 => omega
    intro ao' cap' w1 hown hgrow hat hnn
    have HR : Hid (RowAt w (.slice ao' n cap') zs w1) := Lib.hid (by
      refine ⟨by rw [HN.out]; simpa using hown, ((Below.refl _ _).alloc (Nat.le_refl _) _).grown hgrow (by simp) (fun k hk => by simp only [Value.ownBlock, Option.some.injEq] at hk; omega), fun g hg => ?_⟩
      rcases hat g hg with e | e
      · simp only [Value.ownBlock, Option.some.injEq] at e; omega
      · rw [e]; simp)
    clear hown hgrow hat hnn
    go_wp2
    go_ret
    exact ⟨ao', cap', ret_val (a := .slice ao' n cap') (by rw [HN.out]), by rw [HN.out]; exact HR.out⟩

def doneB (bs : List Int) (e : Int) : List Int := if e = 0 then bs else []

set_option maxHeartbeats 1000000 in
theorem enc_done (p : Nat) (v : Value) (bs : List Int) (e : Int) (w : World) (h : EncAt 135 w p v bs e) (hlen : bs.length ≤ 140737488355328) :
    Calls Try.prog 87 #[.pointer (some ⟨p, 0, none⟩)] w fun en w' => RowPost2 w (doneB bs e) e en w' := by
  obtain ⟨hp, hown, hne⟩ := h
  have c0 := blk_cell hp 0
  have c1 := blk_cell hp 1
  simp only [List.getElem?_toArray, List.getElem?_cons_zero, List.getElem?_cons_succ] at c0 c1
  by_cases he : e = 0
  · subst he
    obtain ⟨ao, cap, rfl⟩ : ∃ ao cap, v = .slice ao bs.length cap := by
      rcases hown.2 with ⟨hv, hn⟩ | ⟨g, cap, cur, hv, _⟩
      · exact ⟨none, 0, by rw [hv, hn]⟩
      · exact ⟨_, cap, hv⟩
    have HC := Lib.hid (clone_u8 ao bs bs.length cap w rfl (owns_at hown).2.1 hlen)
    clear hp hown hne
    go_enter Try.func87, Try.ntmps87
    go_wp2_with fail
    refine HC.out.mono ?_
    rintro e w1 ⟨ao', cap', rfl, hr⟩
    have HR := Lib.hid hr
    clear hr HC
    go_wp2
    go_ret2
    exact ⟨ao', cap', by simp [doneB], by simpa [doneB] using HR.out⟩
  · have he' : (e != 0) = true := by simp [he]
    have HD := Lib.hid (show doneB bs e = [] by simp [doneB, he])
    clear he hp hown hne
    go_enter Try.func87, Try.ntmps87
    go_wp2
    go_quiet (fail)
    go_wp2
    go_ret2
    rw [HD.out]
    exact ⟨none, 0, rfl, World.ownsRow_nil _ _ _ _, by repeat (first | exact Below.refl _ _ | exact Keeps.below ((Keeps.refl (fun _ => False) _).drewN _) (Nat.le_refl _) (fun _ f => f.elim)), fun g hg => by cases hg⟩

def encBytes (bs : List Int) (e : Int) (zs : List Int) : List Int × Int :=
  if e = 0 then (if 65535 < zs.length then (bs, 3) else (bs ++ putB zs.length 2 ++ zs, 0)) else (bs, e)
theorem fits_len (n : Nat) (h : n ≤ 65535) : fitsB n 2 = true := by
  have h1 : amtB (n : Int) = true := (amt_iff _).2 ⟨by omega, by unfold MA; omega⟩
  have h2 : (n : Int) / 2 ^ (8 * (2 : Int).toNat) ≤ 0 := by
    show (n : Int) / 65536 ≤ 0
    omega
  simp [fitsB, h1]
  exact ⟨by decide, by omega⟩
theorem encNum_len (bs : List Int) (n : Nat) (h : n ≤ 65535) : encNum bs 0 n 2 = (bs ++ putB n 2, 0) := by simp [encNum, fits_len n h]


end Go.Proofs.Ytadejcpifabpoaa
