/- What every law over a table uses: encoders and decoders under way; bytes that lie somewhere; bytes.Clone, bytes.Equal. -/
import Derived.Test.YtbhoakohpfdeoaaEnc2
import Derived.Test.YtbhoakohpfdeoaaMac1
import Derived.Test.YtbhoakohpfdeoaaRefe2
import Derived.Test.YtbhoakohpfdeoaaRefd
import Derived.Test.YtbhoakohpfdeoaaPack
namespace Go.Proofs.Ytbhoakohpfdeoaa
open Go.RowKit
set_option linter.unusedVariables false
set_option linter.unusedSimpArgs false

/-- An encoder under way since a world. -/
def EI (T : TypeId) (w0 : World) (p : Nat) (bs : List Int) (e : Int) (w : World) : Prop := ∃ v, EncAt T w p v bs e ∧ Below w0.heap.size w0 w ∧ w0.heap.size ≤ p ∧ ∀ g, v.ownBlock = some g → w0.heap.size ≤ g
theorem EI.start (T : TypeId) (w : World) : EI T w w.heap.size [] 0 (w.alloc (.cells #[.slice none 0 0, .int .i64 0] T)) :=
  ⟨.slice none 0 0, ⟨heap_alloc_new _ _, World.ownsRow_nil _ _ _ _, fun h => by cases h⟩, (Below.refl _ _).alloc (Nat.le_refl _) _, Nat.le_refl _, fun g h => by cases h⟩
section
variable {T : TypeId} {w0 w w' : World} {p : Nat} {bs bs' : List Int} {e e' : Int}
theorem EI.below (h : EI T w0 p bs e w) : Below w0.heap.size w0 w := by obtain ⟨_, _, h, _⟩ := h; exact h
theorem EI.step {v : Value} (h1 : EncAt T w p v bs e) (h2 : Below w0.heap.size w0 w) (h3 : w0.heap.size ≤ p) (h4 : ∀ g, v.ownBlock = some g → w0.heap.size ≤ g) (hp : EncPost T w p v bs' e' w') : EI T w0 p bs' e' w' := by
  obtain ⟨v', a1, a2, a3⟩ := hp
  refine ⟨v', a1, below_fp h2 a2 (fun i hi => ?_), h3, fun g hg => ?_⟩
  · rcases hi with h | h
    · omega
    · exact h4 i h
  · rcases a3 g hg with h | h
    · exact h4 g h
    · exact Nat.le_trans h2.size h
theorem EI.num (h : EI 138 w0 p bs e w) (n size : Int) (hlen : bs.length ≤ 1000000) :
    Calls Try.prog 51 #[.pointer (some ⟨p, 0, none⟩), .int .i64 n, .int .i64 size] w fun en w' => en = .returned (.tuple #[]) ∧ EI 138 w0 p (encNum bs e n size).1 (encNum bs e n size).2 w' := by
  obtain ⟨v, h1, h2, h3, h4⟩ := h
  refine (enc_num p v bs e n size w h1 (by omega)).mono ?_
  rintro en w' ⟨rfl, hp⟩
  exact ⟨rfl, EI.step h1 h2 h3 h4 hp⟩
theorem EI.done (h : EI 138 w0 p bs 0 w) (hlen : bs.length ≤ 1000000) :
    Calls Try.prog 52 #[.pointer (some ⟨p, 0, none⟩)] w fun en w' => ∃ ao cap, en = .returned (.tuple #[.slice ao bs.length cap, .int .i64 0]) ∧ RowAt w0 (.slice ao bs.length cap) bs w' := by
  obtain ⟨v, h1, h2, h3, h4⟩ := h
  refine (enc_done p v bs 0 w h1 (by omega)).mono ?_
  rintro en w' ⟨ao, cap, rfl, a1, a2, a3⟩
  refine ⟨ao, cap, rfl, a1, below_step h2 a2, fun g hg => Nat.le_trans h2.size (a3 g hg)⟩
end
theorem encNum_ok (bs : List Int) (n : Int) (s : Nat) (hs : 1 ≤ s ∧ s ≤ 7) (h0 : 0 ≤ n) (h1 : n < 2 ^ (8 * s)) : encNum bs 0 n s = (bs ++ putB n s, 0) := by
  have h2 : (2 : Int) ^ (8 * s) ≤ 2 ^ 56 := by
    have : ∀ k : Fin 8, (2 : Int) ^ (8 * k.val) ≤ 2 ^ 56 := by decide
    exact this ⟨s, by omega⟩
  have hf : fitsB n s = true := by
    unfold fitsB mayB amtB MA
    rw [decide_eq_true (show 1 ≤ (s : Int) ∧ (s : Int) ≤ 8 by omega), decide_eq_true (show 0 ≤ n ∧ n ≤ 4611686018427387904 by constructor; exact h0; omega)]
    simp only [Bool.true_and, Bool.or_eq_true, decide_eq_true_eq]
    right
    rw [Int.toNat_natCast, Int.ediv_eq_zero_of_lt h0 h1]
    exact Int.le_refl _
  unfold encNum
  rw [if_pos rfl, if_pos hf, Int.toNat_natCast]
section
variable {w0 w w' : World} {p : Nat} {bs bs' : List Int} {e e' : Int}
theorem EI.rnum (h : EI 105 w0 p bs e w) (n size : Int) (hlen : bs.length ≤ 1000000) :
    Calls Try.prog 54 #[.pointer (some ⟨p, 0, none⟩), .int .i64 n, .int .i64 size] w fun en w' => en = .returned (.tuple #[]) ∧ EI 105 w0 p (refNum bs e n size).1 (refNum bs e n size).2 w' := by
  obtain ⟨v, h1, h2, h3, h4⟩ := h
  refine (refnum_any p v bs e n size w h1 (by omega)).mono ?_
  rintro en w' ⟨rfl, hp⟩
  exact ⟨rfl, EI.step h1 h2 h3 h4 hp⟩
theorem EI.raw (h : EI 105 w0 p bs e w) (ao : Option Addr) (zs : List Int) (n cap : Nat) (hn : zs.length = n) (hz : IntsAt .u8 w ao zs) (hlen : bs.length + n ≤ 1000000) :
    Calls Try.prog 53 #[.pointer (some ⟨p, 0, none⟩), .slice ao n cap] w fun en w' => en = .returned (.tuple #[]) ∧ EI 105 w0 p (bs ++ zs) e w' := by
  obtain ⟨v, h1, h2, h3, h4⟩ := h
  refine (raw_any p v bs e w h1 ao zs n cap hn hz (by omega)).mono ?_
  rintro en w' ⟨rfl, hp⟩
  exact ⟨rfl, EI.step h1 h2 h3 h4 hp⟩
theorem EI.later {T : TypeId} (h : EI T w0 p bs e w) (hb : Below w.heap.size w w') : EI T w0 p bs e w' := by
  obtain ⟨v, h1, h2, h3, h4⟩ := h
  exact ⟨v, h1.keep (S := fun _ => False) (Keeps.of_below hb) (fun _ _ h => h), below_step h2 hb, h3, h4⟩
/-- What an encoder holds. -/
theorem EI.open {T : TypeId} (h : EI T w0 p bs e w) : ∃ ao cap, w.cell? ⟨p, 0, none⟩ = some (.slice ao bs.length cap) ∧ RowAt w0 (.slice ao bs.length cap) bs w := by
  obtain ⟨v, h1, h2, h3, h4⟩ := h
  obtain ⟨ao, cap, rfl⟩ := enc_form h1
  exact ⟨ao, cap, blk_cell h1.1 0, h1.2.1, h2, h4⟩
end
theorem refNum_ok (bs : List Int) (n : Int) (s : Nat) (hs : 1 ≤ s ∧ s ≤ 7) (h0 : 0 ≤ n) (h1 : n < 2 ^ (8 * s)) : refNum bs 0 n s = (bs ++ putB n s, 0) := by
  have h := encNum_ok bs n s hs h0 h1
  unfold encNum at h
  rw [if_pos rfl] at h
  unfold refNum
  by_cases hf : fitsB n s = true
  · rw [if_pos hf]; rw [if_pos hf] at h; exact h
  · rw [if_neg hf] at h; simp at h
theorem fits_1 (n : Int) : fitsB n 1 = decide (0 ≤ n ∧ n ≤ 255) := by
  rw [show (1 : Int) = ((1 : Nat) : Int) from rfl, fitsB_small n 1 (by omega) (by omega)]
  have : (2 : Int) ^ (8 * 1) = 256 := by decide
  rw [this]
  simp only [decide_eq_decide]
  omega
theorem fits_4 (n : Int) : fitsB n 4 = decide (0 ≤ n ∧ n ≤ 4294967295) := by
  rw [show (4 : Int) = ((4 : Nat) : Int) from rfl, fitsB_small n 4 (by omega) (by omega)]
  have : (2 : Int) ^ (8 * 4) = 4294967296 := by decide
  rw [this]
  simp only [decide_eq_decide]
  omega
/-- What a call with a table hands back as a row: with an error. -/
def RowT (w : World) (tb : Nat) (zs : List Int) (v : Value) (w' : World) : Prop := TabOk w' tb ∧ w'.ownsRow 0 5 1 v zs.length (zs.map (Value.int .u8)) ∧ Keeps (fun i => i = tb) w w' ∧ (∀ g, v.ownBlock = some g → w.heap.size ≤ g)
/-- A law under way: the table in block tb. -/
structure St (W : World) (tb : Nat) (w : World) : Prop where
  tab : TabOk w tb
  bel : Below W.heap.size W w
  own : W.heap.size ≤ tb
/-- Bytes that lie somewhere, not in the table. -/
structure Lie (tb : Nat) (w : World) (ao : Option Addr) (zs : List Int) (n c : Nat) : Prop where
  len : zs.length = n
  ints : IntsAt .u8 w ao zs
  inb : InB zs
  cap : n ≤ c
  cm : c ≤ maxLen
  off : zs = [] ∨ ∀ a, ao = some a → a.block ≠ tb
/-- A row of one's own, not in the table. -/
structure Own (tb : Nat) (w : World) (ao : Option Addr) (zs : List Int) (n c : Nat) : Prop where
  row : w.ownsRow 0 5 1 (.slice ao n c) n (zs.map (Value.int .u8))
  len : zs.length = n
  inb : InB zs
  off : ∀ a, ao = some a → a.block ≠ tb
section
variable {W w w' : World} {tb : Nat} {ao : Option Addr} {zs : List Int} {n c : Nat}
theorem St.step (h : St W tb w) (hk : Keeps (fun i => i = tb) w w') (ht : TabOk w' tb) : St W tb w' := ⟨ht, below_keeps h.bel hk h.own, h.own⟩
theorem St.below (h : St W tb w) (hb : Below w.heap.size w w') : St W tb w' := ⟨h.tab.below hb, below_step h.bel hb, h.own⟩
theorem St.lt (h : St W tb w) : tb < w.heap.size := h.tab.lt
theorem Lie.step (h : Lie tb w ao zs n c) (hk : Keeps (fun i => i = tb) w w') : Lie tb w' ao zs n c := by
  refine ⟨h.len, ?_, h.inb, h.cap, h.cm, h.off⟩
  rcases h.off with e | e
  · exact Or.inl e
  · exact h.ints.same (fun a ha hl => hk.block a.block hl (e a ha))
theorem Lie.below (h : Lie tb w ao zs n c) (hb : Below w.heap.size w w') : Lie tb w' ao zs n c := ⟨h.len, ints_below h.ints hb, h.inb, h.cap, h.cm, h.off⟩
theorem Lie.take (h : Lie tb w ao zs n c) (k : Nat) (hk : k ≤ n) : Lie tb w ao (zs.take k) k c :=
  ⟨by rw [List.length_take, h.len]; omega, h.ints.take k, inB_take h.inb k, Nat.le_trans hk h.cap, h.cm, h.off.imp (fun e => by rw [e]; simp) id⟩
theorem Lie.drop {b off : Nat} (h : Lie tb w (some ⟨b, off, none⟩) zs n c) (k : Nat) (hk : k ≤ n) : Lie tb w (some ⟨b, off + k, none⟩) (zs.drop k) (n - k) (c - k) :=
  ⟨by rw [List.length_drop, h.len], h.ints.drop k, inB_drop h.inb k, by have := h.cap; omega, by have := h.cm; omega, h.off.imp (fun e => by rw [e]; simp) (fun f a ha => by cases ha; exact f ⟨b, off, none⟩ rfl)⟩
theorem Lie.empty (c : Nat) (hc : c ≤ maxLen) (ao : Option Addr) : Lie tb w ao [] 0 c := ⟨rfl, Or.inl rfl, (fun z hz => by cases hz), Nat.zero_le _, hc, Or.inl rfl⟩
/-- An argument's bytes, seen from the law. -/
theorem Lie.arg (hn : zs.length = n) (hz : IntsAt .u8 W ao zs) (hB : InB zs) (hc : n ≤ c) (hm : c ≤ maxLen) (hs : St W tb w) : Lie tb w ao zs n c :=
  ⟨hn, ints_below hz hs.bel, hB, hc, hm, hz.far hs.own⟩
theorem Own.lie (h : Own tb w ao zs n c) : Lie tb w ao zs n c := ⟨h.len, (owns_at h.row).2.1, h.inb, (owns_at h.row).2.2.1, (owns_at h.row).2.2.2, Or.inr h.off⟩
theorem Own.step (h : Own tb w ao zs n c) (hk : Keeps (fun i => i = tb) w w') : Own tb w' ao zs n c :=
  ⟨ownsRow_same h.row (fun g hg => hk.block g (h.row.lt g hg).2 (fun e => by
    cases ao with
    | none => cases hg
    | some a => cases hg; exact h.off a rfl e)), h.len, h.inb, h.off⟩
theorem Own.below (h : Own tb w ao zs n c) (hb : Below w.heap.size w w') : Own tb w' ao zs n c := ⟨ownsRow_same h.row (fun g hg => hb.block g (h.row.lt g hg).2), h.len, h.inb, h.off⟩
theorem Own.none {tb : Nat} : Own tb w none [] 0 0 := ⟨World.ownsRow_nil _ _ _ _, rfl, (fun z hz => by cases hz), (fun a ha => by cases ha)⟩
/-- What a call with the table hands back. -/
theorem RowT.own {zs : List Int} (h : RowT w tb zs (.slice ao n c) w') (ht : tb < w.heap.size) (hn : zs.length = n) (hB : InB zs) : Own tb w' ao zs n c :=
  ⟨by have := h.2.1; rw [hn] at this; exact this, hn, hB, fun a ha e => by have := h.2.2.2 a.block (by rw [ha]; rfl); omega⟩
/-- What a call without the table hands back. -/
theorem RowAt.own {zs : List Int} (h : RowAt w (.slice ao n c) zs w') (ht : tb < w.heap.size) (hn : zs.length = n) (hB : InB zs) : Own tb w' ao zs n c :=
  ⟨by have := h.1; rw [hn] at this; exact this, hn, hB, fun a ha e => by have := h.2.2 a.block (by rw [ha]; rfl); omega⟩
end
set_option maxHeartbeats 1000000 in
theorem bclone_u8 (ao : Option Addr) (zs : List Int) (n cap : Nat) (w : World) (hn : zs.length = n) (h : IntsAt .u8 w ao zs) (hm : n ≤ 140737488355328) :
    Calls Try.prog 45 #[.slice ao n cap] w fun e w' => RowPost w zs e w' := by
  have heq := fun w : World => Lib.run_eql_slice_nil (P := Try.prog) w 29 5 ao n cap 0 0 Try.underlying29
  have HN := Lib.hid hn
  have H := Lib.hid h
  clear hn
  cases ao with
  | none =>
    have h0 := ints_none h
    clear h
    go_enter Try.func45, Try.ntmps45
    go_wp2
    go_ret
    exact ⟨none, 0, ret_val (a := .slice none 0 0) (by rw [h0]), by rw [h0, List.length_eq_zero_iff.1 h0]; exact ⟨World.ownsRow_nil _ _ _ _, Below.refl _ _, fun g hg => by cases hg⟩⟩
  | some a =>
    obtain ⟨i0, hi, hz0, hz1, hz2⟩ := info_parts Try_infoU8
    clear h
    go_enter Try.func45, Try.ntmps45
    go_wp2_with (at_builtin; refine wpList_append_any rfl _ _ 29 rfl 5 i0 (.int .u8 0) 1 1 Try.underlying29 hi hz0 hz1 hz2 rfl (by decide) (.slice (some ⟨w.heap.size, 0, none⟩) 0 0) 0 [] rfl (World.ownsRow_made w #[] 0 (Nat.zero_le _) (Nat.zero_le _) rfl) (some a) n cap (zs.map (Value.int .u8)) rfl ?c1 ?c2 ?c3 (ints_one _ _) ?c5 ?c6 ?_)
    case c1 => simp; exact HN.out
    case c2 => intro e; cases e
    case c3 => exact src_ints (ints_below H.out ((Below.refl _ _).alloc (Nat.le_refl _) _))
    case c5 => unfold maxLen; omega
    case c6 => omega
    intro ao' cap' w1 hown hgrow hat hnn
    have HR : Hid (RowAt w (.slice ao' n cap') zs w1) := Lib.hid (by
      refine ⟨by rw [HN.out]; simpa using hown, ((Below.refl _ _).alloc (Nat.le_refl _) _).grown hgrow (by simp) (fun k hk => by simp only [Value.ownBlock, Option.some.injEq] at hk; omega), fun g hg => ?_⟩
      rcases hat g hg with e | e
      · simp only [Value.ownBlock, Option.some.injEq] at e; omega
      · rw [e]; simp)
    clear hown hgrow hat hnn
    go_wp2
    go_ret
    exact ⟨ao', cap', ret_val (a := .slice ao' n cap') (by rw [HN.out]), by rw [HN.out]; exact HR.out⟩
set_option maxHeartbeats 1000000 in
theorem bytes_equal (ao bo : Option Addr) (xs ys : List Int) (n m c d : Nat) (w : World) (hn : xs.length = n) (hm : ys.length = m) (hx : IntsAt .u8 w ao xs) (hy : IntsAt .u8 w bo ys) (rx : InB xs) (ry : InB ys) :
    Calls Try.prog 57 #[.slice ao n c, .slice bo m d] w fun e w' => e = .returned (.bool (eqB xs ys)) ∧ w = w' := by
  have h1 := conv_u8 (P := Try.prog) c 29 5 9 Try.underlying29 Try.underlying5 Try.underlying9 hx hn
  have h2 := conv_u8 (P := Try.prog) d 29 5 9 Try.underlying29 Try.underlying5 Try.underlying9 hy hm
  have HE := Lib.hid (strOf_inj rx ry)
  clear hn hm hx hy rx ry
  go_enter Try.func57, Try.ntmps57
  go_wp2
  go_ret
  exact ⟨ret_bool HE.out, rfl⟩
theorem decNum_ok {zs : List Int} (hB : InB zs) (s : Nat) (h1 : 1 ≤ s ∧ s ≤ 7) (hl : s ≤ zs.length) : decNum zs 0 s = (valB (zs.take s), zs.drop s, 0) := by
  have h2 := valB_in (zs.take s) (inB_take hB s)
  rw [List.length_take, Nat.min_eq_left hl] at h2
  have h3 := pow256 s h1.2
  have hM : mayB (s : Int) = true := by unfold mayB; exact decide_eq_true (by omega)
  have e : numF zs s = (valB (zs.take s), 0) := by
    unfold numF
    rw [if_pos hM, if_neg (by omega), Int.toNat_natCast, if_neg (by unfold MA; omega)]
  unfold decNum
  rw [if_pos rfl, e, if_pos rfl, Int.toNat_natCast]
/-- A decoder under way since a world. -/
def DI (T : TypeId) (w0 : World) (p g : Nat) (zs : List Int) (w : World) : Prop := DecAt T w p g zs 0 ∧ Below w0.heap.size w0 w ∧ w0.heap.size ≤ p
theorem DI.num {w0 w : World} {p g : Nat} {zs : List Int} (h : DI 142 w0 p g zs w) (hB : InB zs) (s : Nat) (h1 : 1 ≤ s ∧ s ≤ 7) (hl : s ≤ zs.length) :
    Calls Try.prog 72 #[.pointer (some ⟨p, 0, none⟩), .int .i64 (s : Int)] w fun en w' => en = .returned (.int .i64 (valB (zs.take s))) ∧ DI 142 w0 p g (zs.drop s) w' ∧ Keeps (fun k => k = p) w w' := by
  refine (dec_num p g zs 0 s w h.1).mono ?_
  rintro en w' ⟨rfl, hd, hk⟩
  rw [decNum_ok hB s h1 hl] at hd ⊢
  exact ⟨rfl, ⟨hd, below_fp h.2.1 hk (fun i hi => by have := h.2.2; omega), h.2.2⟩, hk⟩
theorem DI.later {T : TypeId} {w0 w w' : World} {p g : Nat} {zs : List Int} (h : DI T w0 p g zs w) (hb : Below w.heap.size w w') : DI T w0 p g zs w' :=
  ⟨h.1.keep (S := fun _ => False) (Keeps.of_below hb) (fun h => h) (Or.inr (fun h => h)), below_step h.2.1 hb, h.2.2⟩
theorem DI.keep {T : TypeId} {w0 w w' : World} {p g : Nat} {zs : List Int} {S : Nat → Prop} (h : DI T w0 p g zs w) (hk : Keeps S w w') (hp : ¬ S p) (hg : ¬ S g) (hS : ∀ i, S i → w0.heap.size ≤ i) : DI T w0 p g zs w' :=
  ⟨h.1.keep hk hp (Or.inr hg), below_fp h.2.1 hk hS, h.2.2⟩
theorem DI.rnum {w0 w : World} {p g : Nat} {zs : List Int} (h : DI 127 w0 p g zs w) (hB : InB zs) (s : Nat) (h1 : 1 ≤ s ∧ s ≤ 7) (hl : s ≤ zs.length) :
    Calls Try.prog 74 #[.pointer (some ⟨p, 0, none⟩), .int .i64 (s : Int)] w fun en w' => en = .returned (.int .i64 (valB (zs.take s))) ∧ DI 127 w0 p g (zs.drop s) w' ∧ Keeps (fun k => k = p) w w' := by
  refine (refdec_num p g zs 0 s w h.1).mono ?_
  rintro en w' ⟨rfl, hd, hk⟩
  rw [decNum_ok hB s h1 hl] at hd ⊢
  exact ⟨rfl, ⟨hd, below_fp h.2.1 hk (fun i hi => by have := h.2.2; omega), h.2.2⟩, hk⟩
/-- A decoder laid over bytes. -/
theorem dec_box (T : TypeId) {w : World} {b off : Nat} {zs : List Int} {n c : Nat} (hn : zs.length = n) (hz : IntsAt .u8 w (some ⟨b, off, none⟩) zs) (hB : InB zs) (hc : n ≤ c) (hm : c ≤ maxLen) (hl : n ≤ 140737488355328) (h0 : 0 < n) :
    DecAt T (w.alloc (.cells #[.slice (some ⟨b, off, none⟩) n c, .int .i64 0] T)) w.heap.size b zs 0 ∧ b < w.heap.size := by
  have hb := hz.lt (fun e => by rw [e] at hn; simp at hn; omega)
  have hb' : b < w.heap.size := hb
  subst hn
  exact ⟨⟨some ⟨b, off, none⟩, c, heap_alloc_new w _, ints_below hz ((Below.refl _ _).alloc (Nat.le_refl _) _), hc, hm, hB, hl, Or.inr (fun a ha => by cases ha; rfl), by omega⟩, hb'⟩
def hdF (zs : List Int) (i s : Nat) : Int := valB ((zs.drop i).take s)
theorem hdF_in {zs : List Int} (h : InB zs) (i s : Nat) (hl : i + s ≤ zs.length) : 0 ≤ hdF zs i s ∧ hdF zs i s < 256 ^ s := by
  have := valB_in ((zs.drop i).take s) (inB_take (inB_drop h i) s)
  rw [List.length_take, List.length_drop, Nat.min_eq_left (by omega)] at this
  exact this
theorem hdF_1 {zs : List Int} (h : InB zs) (i : Nat) (hl : i + 1 ≤ zs.length) : 0 ≤ hdF zs i 1 ∧ hdF zs i 1 ≤ 255 := by
  have := hdF_in h i 1 hl
  have e : (256 : Int) ^ 1 = 256 := by decide
  rw [e] at this
  omega
theorem hdF_4 {zs : List Int} (h : InB zs) (i : Nat) (hl : i + 4 ≤ zs.length) : 0 ≤ hdF zs i 4 ∧ hdF zs i 4 ≤ 4294967295 := by
  have := hdF_in h i 4 hl
  have e : (256 : Int) ^ 4 = 4294967296 := by decide
  rw [e] at this
  omega
theorem take_in {α : Type} {xs ys : List α} {m : Nat} (h : xs.take m = ys) (i s : Nat) (hi : i + s ≤ m) : (xs.drop i).take s = (ys.drop i).take s := by
  rw [← h, List.drop_take, List.take_take, Nat.min_eq_left (by omega)]
theorem put1 {n : Int} (h : 0 ≤ n ∧ n ≤ 255) : valB (putB n 1) = n := by
  rw [valB_put n 1 h.1]
  have e : (256 : Int) ^ 1 = 256 := by decide
  rw [e]; omega
theorem put4 {n : Int} (h : 0 ≤ n ∧ n ≤ 4294967295) : valB (putB n 4) = n := by
  rw [valB_put n 4 h.1]
  have e : (256 : Int) ^ 4 = 4294967296 := by decide
  rw [e]; omega

end Go.Proofs.Ytbhoakohpfdeoaa
