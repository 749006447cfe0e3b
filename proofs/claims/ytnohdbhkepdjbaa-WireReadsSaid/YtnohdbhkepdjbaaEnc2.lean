/- Contracts of package wire's encoder: Clone, Done, Bytes; of cflref.Bytes. -/
import Derived.Test.YtnohdbhkepdjbaaEnc
namespace Go.Proofs.Ytnohdbhkepdjbaa
open Go.RowKit
set_option linter.unusedVariables false

set_option maxHeartbeats 1000000 in
theorem clone_u8 (ao : Option Addr) (zs : List Int) (n cap : Nat) (w : World) (hn : zs.length = n) (h : IntsAt .u8 w ao zs) (hm : n ≤ 140737488355328) :
    Calls Try.prog 54 #[.slice ao n cap] w fun e w' => RowPost w zs e w' := by
  have heq := fun w : World => Lib.run_eql_slice_nil (P := Try.prog) w 34 5 ao n cap 0 0 Try.underlying34
  have HN := Lib.hid hn
  have H := Lib.hid h
  clear hn
  cases ao with
  | none =>
    have h0 := ints_none h
    clear h
    go_enter Try.func54, Try.ntmps54
    go_wp2
    go_ret
    exact ⟨none, 0, ret_val (a := .slice none 0 0) (by rw [h0]), by rw [h0, List.length_eq_zero_iff.1 h0]; exact ⟨World.ownsRow_nil _ _ _ _, Below.refl _ _, fun g hg => by cases hg⟩⟩
  | some a =>
    obtain ⟨i0, hi, hz0, hz1, hz2⟩ := info_parts Try_infoU8
    clear h
    go_enter Try.func54, Try.ntmps54
    go_wp2_with (at_builtin; refine wpList_append_any rfl _ _ 34 rfl 5 i0 (.int .u8 0) 1 1 Try.underlying34 hi hz0 hz1 hz2 rfl (by decide) (.slice (some ⟨w.heap.size, 0, none⟩) 0 0) 0 [] rfl (World.ownsRow_made w #[] 0 (Nat.zero_le _) (Nat.zero_le _) rfl) (some a) n cap (zs.map (Value.int .u8)) rfl ?c1 ?c2 ?c3 (ints_one _ _) ?c5 ?c6 ?_)
    case c1 => simp; exact HN.out
    case c2 => intro e; cases e
    case c3 => exact src_ints (ints_below H.out ((Below.refl _ _).alloc (Nat.le_refl _) _))
    case c5 => unfold maxLen; omega
    case c6 => omega
    intro ao' cap' w1 hown hgrow hat hnn
    have HR : Hid (RowAt w (.slice ao' n cap') zs w1) := Lib.hid (by
      refine ⟨by rw [HN.out]; simpa using hown, ((Below.refl _ _).alloc (Nat.le_refl _) _).grown hgrow (by simp) (fun k hk => by simp only [Value.ownBlock, Option.some.injEq] at hk; omega), fun g hg => ?_⟩
      rcases hat g hg with e | e
      · simp only [Value.ownBlock, Option.some.injEq] at e; omega
      · rw [e]; simp)
    clear hown hgrow hat hnn
    go_wp2
    go_ret
    exact ⟨ao', cap', ret_val (a := .slice ao' n cap') (by rw [HN.out]), by rw [HN.out]; exact HR.out⟩

def doneB (bs : List Int) (e : Int) : List Int := if e = 0 then bs else []

set_option maxHeartbeats 1000000 in
theorem enc_done (p : Nat) (v : Value) (bs : List Int) (e : Int) (w : World) (h : EncAt 66 w p v bs e) (hlen : bs.length ≤ 140737488355328) :
    Calls Try.prog 22 #[.pointer (some ⟨p, 0, none⟩)] w fun en w' => RowPost2 w (doneB bs e) e en w' := by
  obtain ⟨hp, hown, hne⟩ := h
  have c0 := blk_cell hp 0
  have c1 := blk_cell hp 1
  simp only [List.getElem?_toArray, List.getElem?_cons_zero, List.getElem?_cons_succ] at c0 c1
  by_cases he : e = 0
  · subst he
    obtain ⟨ao, cap, rfl⟩ : ∃ ao cap, v = .slice ao bs.length cap := by
      rcases hown.2 with ⟨hv, hn⟩ | ⟨g, cap, cur, hv, _⟩
      · exact ⟨none, 0, by rw [hv, hn]⟩
      · exact ⟨_, cap, hv⟩
    have HC := Lib.hid (clone_u8 ao bs bs.length cap w rfl (owns_at hown).2.1 hlen)
    clear hp hown hne
    go_enter Try.func22, Try.ntmps22
    go_wp2_with fail
    refine HC.out.mono ?_
    rintro e w1 ⟨ao', cap', rfl, hr⟩
    have HR := Lib.hid hr
    clear hr HC
    go_wp2
    go_ret2
    exact ⟨ao', cap', by simp [doneB], by simpa [doneB] using HR.out⟩
  · have he' : (e != 0) = true := by simp [he]
    have HD := Lib.hid (show doneB bs e = [] by simp [doneB, he])
    clear he hp hown hne
    go_enter Try.func22, Try.ntmps22
    go_wp2
    go_quiet (fail)
    go_wp2
    go_ret2
    rw [HD.out]
    exact ⟨none, 0, rfl, World.ownsRow_nil _ _ _ _, by repeat (first | exact Below.refl _ _ | exact Keeps.below ((Keeps.refl (fun _ => False) _).drewN _) (Nat.le_refl _) (fun _ f => f.elim)), fun g hg => by cases hg⟩

def encBytes (bs : List Int) (e : Int) (zs : List Int) : List Int × Int :=
  if e = 0 then (if 65535 < zs.length then (bs, 3) else (bs ++ putB zs.length 2 ++ zs, 0)) else (bs, e)
theorem fits_len (n : Nat) (h : n ≤ 65535) : fitsB n 2 = true := by
  have h1 : amtB (n : Int) = true := (amt_iff _).2 ⟨by omega, by unfold MA; omega⟩
  have h2 : (n : Int) / 2 ^ (8 * (2 : Int).toNat) ≤ 0 := by
    show (n : Int) / 65536 ≤ 0
    omega
  simp [fitsB, h1]
  exact ⟨by decide, by omega⟩
theorem encNum_len (bs : List Int) (n : Nat) (h : n ≤ 65535) : encNum bs 0 n 2 = (bs ++ putB n 2, 0) := by simp [encNum, fits_len n h]

set_option maxHeartbeats 1000000 in
theorem enc_bytes (p : Nat) (v : Value) (bs : List Int) (e : Int) (w : World) (h : EncAt 66 w p v bs e) (ao : Option Addr) (zs : List Int) (n cap : Nat) (hn : zs.length = n) (hz : IntsAt .u8 w ao zs)
    (hd : zs = [] ∨ ∀ a, ao = some a → ¬ fpE p v a.block) (hlen : bs.length + 8 + n ≤ 140737488355328) :
    Calls Try.prog 35 #[.pointer (some ⟨p, 0, none⟩), .slice ao n cap] w fun en w' => en = .returned (.tuple #[]) ∧ EncPost 66 w p v (encBytes bs e zs).1 (encBytes bs e zs).2 w' := by
  have h' := h
  obtain ⟨hp, hown, hne⟩ := h'
  have c0 := blk_cell hp 0
  have c1 := blk_cell hp 1
  have f1 := blk_frozen hp 1
  simp only [List.getElem?_toArray, List.getElem?_cons_zero, List.getElem?_cons_succ] at c0 c1
  have HN := Lib.hid hn
  by_cases he : e = 0
  · subst he
    by_cases hl : 65535 < n
    · have hl' : (65535 : Int) < (n : Int) := by omega
      have HE := Lib.hid (show encBytes bs 0 zs = (bs, 3) by simp [encBytes, hn, hl])
      have HP := Lib.hid (enc_err h 3)
      clear h hp hown hne hn hz hd
      go_enter Try.func35, Try.ntmps35
      go_wp2
      go_end0
      exact ⟨rfl, by rw [HE.out]; exact HP.out⟩
    · have hl' : ¬ (65535 : Int) < (n : Int) := by omega
      have HE := Lib.hid (show encBytes bs 0 zs = (bs ++ putB n 2 ++ zs, 0) by simp [encBytes, hn, hl])
      have hc := enc_num p v bs 0 n 2 w h (by omega)
      rw [encNum_len bs n (by omega)] at hc
      have HC := Lib.hid hc
      have HD := Lib.hid hd
      have HZ := Lib.hid hz
      obtain ⟨i0, hi, hz0, hz1, hz2⟩ := info_parts Try_infoU8
      have hpl := blk_lt hp
      have HL := Lib.hid (show ∀ a, IntsAt .u8 w (some a) zs → zs ≠ [] → a.block < w.heap.size from fun a h h0 => h.lt h0)
      clear h hp hown hne hn hz hd hc
      go_enter Try.func35, Try.ntmps35
      go_wp2_with fail
      refine HC.out.mono ?_
      rintro e w1 ⟨rfl, v1, h1, hK, hF⟩
      have hz1' : IntsAt .u8 w1 ao zs := by
        rcases HD.out with h | h
        · exact Or.inl h
        · exact HZ.out.same (fun a ha hl => hK.block _ hl (h a ha))
      have h1' := h1
      obtain ⟨hp1, hown1, hne1⟩ := h1'
      have k0 := blk_cell hp1 0
      simp only [List.getElem?_toArray, List.getElem?_cons_zero] at k0
      have HT := Lib.hid (fun (ao' : Option Addr) (N cap' : Nat) (w2 : World) => EncPost.trans hK hF (T := 66) (bs := bs ++ putB n 2 ++ zs) (e := 0) (w2 := w2.setCell ⟨p, 0, none⟩ (.slice ao' N cap')))
      have H1 := Lib.hid h1
      have HO := Lib.hid hown1
      have HE1 := Lib.hid hne1
      have HZ1 := Lib.hid hz1'
      have hpl1 := blk_lt hp1
      have hL : (bs ++ putB n 2).length + n ≤ 140737488355328 := by simp [putB_length]; omega
      generalize bs ++ putB n 2 = bb at *
      have HP := Lib.hid hp1
      clear hp1 hown1 hne1 h1 hz1' hK hF HD HZ HC HL
      go_wp2_with (at_builtin; refine wpList_append_any rfl _ _ 34 rfl 5 i0 (.int .u8 0) 1 1 Try.underlying34 hi hz0 hz1 hz2 rfl (by decide) v1 bb.length (bb.map (Value.int .u8)) rfl HO.out ao n cap (zs.map (Value.int .u8)) rfl ?c1 ?c2 ?c3 (ints_one _ _) ?c5 ?c6 ?_)
      case c1 => simp; exact HN.out
      case c2 => intro e; have := HZ1.out; rw [e] at this; have := ints_none this; have := HN.out; omega
      case c3 => exact src_ints HZ1.out
      case c5 => unfold maxLen; omega
      case c6 => omega
      intro ao' cap' w2 hown hgrow hat hnn
      have kk := hgrow.block p (by omega) (fun e => HE1.out e.symm)
      have hp2 : w2.heap[p]? = some (.cells #[v1, .int .i64 0] 66 (0, 0)) := kk.trans HP.out
      have q0 := blk_cell hp2 0
      have q0f := blk_frozen hp2 0
      simp only [List.getElem?_toArray, List.getElem?_cons_zero] at q0
      have HR := Lib.hid (HT.out ao' (bb.length + n) cap' w2 (enc_app (zs := zs) (wa := w1) H1.out (Keeps.refl _ _) (by simpa using hown) hgrow (fun g hg => (hat g hg).imp id (fun e => by omega))))
      clear hown hgrow hat hnn kk hp2
      go_wp2
      go_end0
      exact ⟨rfl, by rw [HE.out]; exact HR.out⟩
  · have he' : (e != 0) = true := by simp [he]
    have HE := Lib.hid (show encBytes bs e zs = (bs, e) by simp [encBytes, he])
    have HP := Lib.hid (EncPost.refl h)
    clear he h hp hown hne hn hz hd
    go_enter Try.func35, Try.ntmps35
    go_wp2
    go_end0
    exact ⟨rfl, by rw [HE.out]; exact HP.out⟩

end Go.Proofs.Ytnohdbhkepdjbaa
