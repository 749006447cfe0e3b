/- sha.mix: the words of a block. -/
import Derived.Test.YtbhoakohpfdeoaaGreatSha5
import Derived.Deep.RegionHeld3
import Derived.Test.YtbhoakohpfdeoaaGreatTake
namespace Go.Proofs.YtbhoakohpfdeoaaGreat
open Go.RowKit
set_option linter.unusedVariables false
set_option linter.unusedSimpArgs false

def InU (z : Int) : Prop := 0 ≤ z ∧ z < 4294967296
theorem inU_mod (z : Int) : InU (z % 4294967296) := ⟨by omega, by omega⟩
theorem inU_bits (op : BinOp) (x y : Int) : InU (bits op .u32 x y) := by
  unfold bits
  simp only [IntKind.wrap_u32]
  exact inU_mod _
def rotI (x : Int) (r : Nat) : Int := bits .or .u32 (x * 2 ^ (32 - r) % 4294967296) (x / 2 ^ r)
theorem rotI_any (x : Int) (r : Nat) (k : Int) (hx : InU x) (h1 : 1 ≤ r) (h2 : r ≤ 31) (hk : k = -(r : Int)) (w : World) :
    Calls Tryz.prog 75 #[.int .u32 x, .int .i64 k] w fun e w' => e = .returned (.int .u32 (rotI x r)) ∧ w = w' := by
  obtain ⟨n, rfl⟩ := Int.eq_ofNat_of_zero_le hx.1
  have hn : n < 4294967296 := by have := hx.2; omega
  refine (rot_any n r k hn h1 h2 hk w).mono ?_
  rintro e w' ⟨rfl, rfl⟩
  refine ⟨ret_int ?_, rfl⟩
  unfold rotr rotI
  have e1 : ((n : Int) * 2 ^ (32 - r) % 4294967296) = ((n * 2 ^ (32 - r) % 4294967296 : Nat) : Int) := by simp
  have e2 : ((n : Int) / 2 ^ r) = ((n / 2 ^ r : Nat) : Int) := by simp
  rw [e1, e2, u32_or_nat _ _ (by omega) (Nat.lt_of_le_of_lt (Nat.div_le_self _ _) hn)]

/-- An array of n words in a block from off on. -/
def ArrAt (w : World) (b : Nat) (T : TypeId) (n off : Nat) (f : Nat → Int) : Prop :=
  ∃ cs, w.heap[b]? = some (.cells cs T (0, 0)) ∧ off + n ≤ cs.size ∧ ∀ j, j < n → cs[off + j]? = some (.int .u32 (f j))
section
variable {w w' : World} {b : Nat} {T : TypeId} {n off : Nat} {f f' : Nat → Int}
theorem ArrAt.lt (h : ArrAt w b T n off f) : b < w.heap.size := by obtain ⟨_, h, _⟩ := h; exact blk_lt h
theorem ArrAt.same (h : ArrAt w b T n off f) (he : w'.heap[b]? = w.heap[b]?) : ArrAt w' b T n off f := by
  obtain ⟨cs, h1, h2⟩ := h
  exact ⟨cs, he.trans h1, h2⟩
theorem ArrAt.below (h : ArrAt w b T n off f) (hb : Below w.heap.size w w') : ArrAt w' b T n off f := h.same (hb.block _ h.lt)
theorem ArrAt.cell (h : ArrAt w b T n off f) (j : Nat) (hj : j < n) : w.cell? ⟨b, off + j, none⟩ = some (.int .u32 (f j)) ∧ w.frozen? ⟨b, off + j, none⟩ = false := by
  obtain ⟨cs, h1, _, h2⟩ := h
  exact ⟨(blk_cell h1 _).trans (h2 j hj), blk_frozen h1 _⟩
theorem ArrAt.set (h : ArrAt w b T n off f) (i : Nat) (hi : i < n) (v : Int) : ArrAt (w.setCell ⟨b, off + i, none⟩ (.int .u32 v)) b T n off (fun j => if j = i then v else f j) := by
  obtain ⟨cs, h1, h2, h3⟩ := h
  refine ⟨_, blk_set h1 (off + i) _, by simpa using h2, fun j hj => ?_⟩
  by_cases e : j = i
  · subst e
    rw [Array.getElem?_setIfInBounds_self, if_pos (by omega)]; simp
  · show _ = some (Value.int .u32 (if j = i then v else f j))
    rw [Array.getElem?_setIfInBounds_ne (by omega), if_neg e]; exact h3 j hj
theorem ArrAt.setD (h : ArrAt w b T n 0 f) (i : Nat) (hi : i < n) (v : Int) (hf : ∀ j, j < n → f' j = if j = i then v else f j) : ArrAt ((w.setCell ⟨b, i, none⟩ (.int .u32 v)).drew) b T n 0 f' := by
  obtain ⟨cs, h1, h2, h3⟩ := h.set i hi v
  rw [Nat.zero_add] at h1
  exact ⟨cs, h1, h2, fun j hj => by rw [hf j hj]; exact h3 j hj⟩
theorem Keeps.setD {w0 : World} (h : Keeps (fun i => i = b) w0 w) (i : Nat) (v : Value) : Keeps (fun i => i = b) w0 ((w.setCell ⟨b, i, none⟩ v).drew) :=
  h.trans (((Keeps.refl (fun i => i = b) w).setCell (p := ⟨b, i, none⟩) (Or.inl rfl) v).drew) (fun i hi => Or.inl hi)
theorem ArrAt.to (h : ArrAt w b T n off f) (hf : ∀ j, j < n → f j = f' j) : ArrAt w b T n off f' := by
  obtain ⟨cs, h1, h2, h3⟩ := h
  exact ⟨cs, h1, h2, fun j hj => by rw [← hf j hj]; exact h3 j hj⟩
end

/-- The same, and the block's other cells are those of c0. -/
def ArrF (w : World) (b : Nat) (T : TypeId) (n off : Nat) (f : Nat → Int) (c0 : Array Value) : Prop :=
  ∃ cs, w.heap[b]? = some (.cells cs T (0, 0)) ∧ cs.size = c0.size ∧ off + n ≤ cs.size ∧ (∀ j, j < n → cs[off + j]? = some (.int .u32 (f j))) ∧ ∀ j, (j < off ∨ off + n ≤ j) → cs[j]? = c0[j]?
section
variable {w w' : World} {b : Nat} {T : TypeId} {n off : Nat} {f f' : Nat → Int} {c0 : Array Value}
theorem ArrF.lt (h : ArrF w b T n off f c0) : b < w.heap.size := by obtain ⟨_, h, _⟩ := h; exact blk_lt h
theorem ArrF.same (h : ArrF w b T n off f c0) (he : w'.heap[b]? = w.heap[b]?) : ArrF w' b T n off f c0 := by
  obtain ⟨cs, h1, h2⟩ := h
  exact ⟨cs, he.trans h1, h2⟩
theorem ArrF.below (h : ArrF w b T n off f c0) (hb : Below w.heap.size w w') : ArrF w' b T n off f c0 := h.same (hb.block _ h.lt)
theorem ArrF.cell (h : ArrF w b T n off f c0) (j : Nat) (hj : j < n) : w.cell? ⟨b, off + j, none⟩ = some (.int .u32 (f j)) ∧ w.frozen? ⟨b, off + j, none⟩ = false := by
  obtain ⟨cs, h1, _, _, h2, _⟩ := h
  exact ⟨(blk_cell h1 _).trans (h2 j hj), blk_frozen h1 _⟩
theorem ArrF.set (h : ArrF w b T n off f c0) (i : Nat) (hi : i < n) (v : Int) : ArrF (w.setCell ⟨b, off + i, none⟩ (.int .u32 v)) b T n off (fun j => if j = i then v else f j) c0 := by
  obtain ⟨cs, h1, h0, h2, h3, h4⟩ := h
  refine ⟨_, blk_set h1 (off + i) _, by simpa using h0, by simpa using h2, fun j hj => ?_, fun j hj => ?_⟩
  · by_cases e : j = i
    · subst e
      rw [Array.getElem?_setIfInBounds_self, if_pos (by omega)]; simp
    · show _ = some (Value.int .u32 (if j = i then v else f j))
      rw [Array.getElem?_setIfInBounds_ne (by omega), if_neg e]; exact h3 j hj
  · rw [Array.getElem?_setIfInBounds_ne (by omega)]; exact h4 j hj
theorem ArrF.to (h : ArrF w b T n off f c0) (hf : ∀ j, j < n → f j = f' j) : ArrF w b T n off f' c0 := by
  obtain ⟨cs, h1, h0, h2, h3, h4⟩ := h
  exact ⟨cs, h1, h0, h2, fun j hj => by rw [← hf j hj]; exact h3 j hj, h4⟩
theorem ArrF.of {cs : Array Value} (h : w.heap[b]? = some (.cells cs T (0, 0))) (hn : off + n ≤ cs.size) (hf : ∀ j, j < n → cs[off + j]? = some (.int .u32 (f j))) : ArrF w b T n off f cs := ⟨cs, h, rfl, hn, hf, fun _ _ => rfl⟩
end

/-- A block of eight words. -/
def V8 (w : World) (b : Nat) (T : TypeId) (a0 a1 a2 a3 a4 a5 a6 a7 : Int) : Prop :=
  w.heap[b]? = some (.cells #[.int .u32 a0, .int .u32 a1, .int .u32 a2, .int .u32 a3, .int .u32 a4, .int .u32 a5, .int .u32 a6, .int .u32 a7] T (0, 0))
section
variable {w w' : World} {b : Nat} {T : TypeId} {a0 a1 a2 a3 a4 a5 a6 a7 : Int}
theorem V8.lt (h : V8 w b T a0 a1 a2 a3 a4 a5 a6 a7) : b < w.heap.size := blk_lt h
theorem V8.same (h : V8 w b T a0 a1 a2 a3 a4 a5 a6 a7) (he : w'.heap[b]? = w.heap[b]?) : V8 w' b T a0 a1 a2 a3 a4 a5 a6 a7 := he.trans h
theorem V8.c (h : V8 w b T a0 a1 a2 a3 a4 a5 a6 a7) : w.cell? ⟨b, 0, none⟩ = some (.int .u32 a0) ∧ w.cell? ⟨b, 1, none⟩ = some (.int .u32 a1) ∧ w.cell? ⟨b, 2, none⟩ = some (.int .u32 a2) ∧ w.cell? ⟨b, 3, none⟩ = some (.int .u32 a3) ∧ w.cell? ⟨b, 4, none⟩ = some (.int .u32 a4) ∧ w.cell? ⟨b, 5, none⟩ = some (.int .u32 a5) ∧ w.cell? ⟨b, 6, none⟩ = some (.int .u32 a6) ∧ w.cell? ⟨b, 7, none⟩ = some (.int .u32 a7) :=
  ⟨blk_cell h 0, blk_cell h 1, blk_cell h 2, blk_cell h 3, blk_cell h 4, blk_cell h 5, blk_cell h 6, blk_cell h 7⟩
theorem V8.f (h : V8 w b T a0 a1 a2 a3 a4 a5 a6 a7) (j : Nat) : w.frozen? ⟨b, j, none⟩ = false := blk_frozen h j
theorem V8.arr (h : V8 w b T a0 a1 a2 a3 a4 a5 a6 a7) : ArrAt w b T 8 0 (fun j => [a0, a1, a2, a3, a4, a5, a6, a7].getD j 0) := by
  refine ⟨_, h, by simp, fun j hj => ?_⟩
  match j, hj with
  | 0, _ => rfl
  | 1, _ => rfl
  | 2, _ => rfl
  | 3, _ => rfl
  | 4, _ => rfl
  | 5, _ => rfl
  | 6, _ => rfl
  | 7, _ => rfl
theorem V8.set0 (h : V8 w b T a0 a1 a2 a3 a4 a5 a6 a7) (x : Int) : V8 (w.setCell ⟨b, 0, none⟩ (.int .u32 x)) b T x a1 a2 a3 a4 a5 a6 a7 := by
  have := blk_set h 0 (.int .u32 x); simpa [V8] using this
theorem V8.set4 (h : V8 w b T a0 a1 a2 a3 a4 a5 a6 a7) (x : Int) : V8 (w.setCell ⟨b, 4, none⟩ (.int .u32 x)) b T a0 a1 a2 a3 x a5 a6 a7 := by
  have := blk_set h 4 (.int .u32 x); simpa [V8] using this
theorem V8.shift (h : V8 w b T a0 a1 a2 a3 a4 a5 a6 a7) (ty : TypeId) : ∃ w', (Builtin.copy_ #[98, 98] ty #[.slice (some ⟨b, 1, none⟩) 7 7, .slice (some ⟨b, 0, none⟩) 7 8]).run Tryz.prog w = .ok (.int .i64 7) w' ∧ V8 w' b T a0 a0 a1 a2 a3 a4 a5 a6 ∧ Keeps (fun i => i = b) w w' := by
  have hr := run_copy_row (P := Tryz.prog) w 98 98 ty 80 b 1 7 7 ⟨b, 0, none⟩ 7 8 _ T [.int .u32 a0, .int .u32 a1, .int .u32 a2, .int .u32 a3, .int .u32 a4, .int .u32 a5, .int .u32 a6] (by kernel_rfl) (by kernel_rfl) h rfl
    (fun j v hj => by
      have hc := h.c
      match j, hj with
      | 0, hj => simp at hj; subst hj; exact hc.1
      | 1, hj => simp at hj; subst hj; exact hc.2.1
      | 2, hj => simp at hj; subst hj; exact hc.2.2.1
      | 3, hj => simp at hj; subst hj; exact hc.2.2.2.1
      | 4, hj => simp at hj; subst hj; exact hc.2.2.2.2.1
      | 5, hj => simp at hj; subst hj; exact hc.2.2.2.2.2.1
      | 6, hj => simp at hj; subst hj; exact hc.2.2.2.2.2.2.1
      | j + 7, hj => simp at hj)
    (by simp) (by intro v hv; simp at hv; rcases hv with rfl | rfl | rfl | rfl | rfl | rfl | rfl <;> rfl)
  refine ⟨_, hr, ?_, ?_⟩
  · exact setRow_heap w b _ _ T _ h
  · exact ⟨rfl, rfl, rfl, by simp [World.setRow], fun k hk hn => setRow_other w b k _ hn⟩
end
def be4 (l : List Int) : Int := l.foldl (fun acc c => bits .or .u32 (acc * 256 % 4294967296) c) 0
def sg0 (x : Int) : Int := bits .xor .u32 (bits .xor .u32 (rotI x 7) (rotI x 18)) (x / 8)
def sg1 (x : Int) : Int := bits .xor .u32 (bits .xor .u32 (rotI x 17) (rotI x 19)) (x / 1024)
def m16 (bs : List Int) (i : Nat) : Int := be4 ((bs.drop (4 * i)).take 4)
def wSched (l : List Int) : Int := (((l.getD (l.length - 16) 0 + sg0 (l.getD (l.length - 15) 0)) % 4294967296 + l.getD (l.length - 7) 0) % 4294967296 + sg1 (l.getD (l.length - 2) 0)) % 4294967296
def wNext (bs l : List Int) : Int := if l.length < 16 then m16 bs l.length else wSched l
def wPre (bs : List Int) : Nat → List Int
  | 0 => []
  | k + 1 => wPre bs k ++ [wNext bs (wPre bs k)]
theorem wPre_len (bs : List Int) (k : Nat) : (wPre bs k).length = k := by
  induction k with
  | zero => rfl
  | succ k ih => simp [wPre, ih]
theorem wPre_next (bs : List Int) (k j : Nat) : (wPre bs (k + 1)).getD j 0 = if j = k then wNext bs (wPre bs k) else (wPre bs k).getD j 0 := by
  have hl := wPre_len bs k
  have e0 : wPre bs (k + 1) = wPre bs k ++ [wNext bs (wPre bs k)] := rfl
  rw [e0]
  by_cases h : j < k
  · rw [if_neg (by omega)]; simp [List.getD, List.getElem?_append_left (by omega : j < (wPre bs k).length)]
  · by_cases e : j = k
    · subst e
      rw [if_pos rfl]
      simp only [List.getD]
      rw [List.getElem?_append_right (by omega), hl]; simp
    · rw [if_neg e]
      simp only [List.getD]
      rw [List.getElem?_eq_none (by simp; omega), List.getElem?_eq_none (by omega)]
def cpl (x : Int) : Int := bits .xor .u32 4294967295 x
def bg0 (a : Int) : Int := bits .xor .u32 (bits .xor .u32 (rotI a 2) (rotI a 13)) (rotI a 22)
def bg1 (e : Int) : Int := bits .xor .u32 (bits .xor .u32 (rotI e 6) (rotI e 11)) (rotI e 25)
def chF (e f g : Int) : Int := bits .xor .u32 (bits .and .u32 e f) (bits .and .u32 (cpl e) g)
def majF (a b c : Int) : Int := bits .xor .u32 (bits .xor .u32 (bits .and .u32 a b) (bits .and .u32 a c)) (bits .and .u32 b c)
def oneF (k wv e f g h : Int) : Int := ((((h + bg1 e) % 4294967296 + chF e f g) % 4294967296 + k) % 4294967296 + wv) % 4294967296
def twoF (a b c : Int) : Int := (bg0 a + majF a b c) % 4294967296
def vStep (k wv : Int) : List Int → List Int
  | [a, b, c, d, e, f, g, h] => [(oneF k wv e f g h + twoF a b c) % 4294967296, a, b, c, (d + oneF k wv e f g h) % 4294967296, e, f, g]
  | l => l
def vRun (ws hs : List Int) : Nat → List Int
  | 0 => hs
  | i + 1 => vStep (kAt i) (ws.getD i 0) (vRun ws hs i)
def mixF (hs bs : List Int) : List Int := List.zipWith (fun x y => (x + y) % 4294967296) hs (vRun (wPre bs 64) hs 64)
theorem vStep_len (k wv : Int) (l : List Int) (h : l.length = 8) : (vStep k wv l).length = 8 := by
  match l, h with
  | [a, b, c, d, e, f, g, i], _ => rfl
theorem vRun_len (ws hs : List Int) (h : hs.length = 8) : ∀ k, (vRun ws hs k).length = 8
  | 0 => h
  | k + 1 => vStep_len _ _ _ (vRun_len ws hs h k)
theorem vStep_in (k wv : Int) (l : List Int) (h : ∀ j, InU (l.getD j 0)) : ∀ j, InU ((vStep k wv l).getD j 0) := by
  unfold vStep
  split
  · intro j
    have g := h
    match j with
    | 0 => exact inU_mod _
    | 1 => exact g 0
    | 2 => exact g 1
    | 3 => exact g 2
    | 4 => exact inU_mod _
    | 5 => exact g 4
    | 6 => exact g 5
    | 7 => exact g 6
    | j + 8 => exact ⟨by simp, by simp⟩
  · exact h
theorem vRun_in (ws hs : List Int) (h : ∀ j, InU (hs.getD j 0)) : ∀ k j, InU ((vRun ws hs k).getD j 0)
  | 0 => h
  | k + 1 => vStep_in _ _ _ (vRun_in ws hs h k)
theorem be4_snoc (l : List Int) (c : Int) : be4 (l ++ [c]) = bits .or .u32 (be4 l * 256 % 4294967296) c := by
  unfold be4; rw [List.foldl_append]; rfl
theorem be4_in (l : List Int) : InU (be4 l) := by
  rcases List.eq_nil_or_concat l with h | ⟨l', c, h⟩
  · subst h; exact ⟨by decide, by decide⟩
  · rw [h, List.concat_eq_append, be4_snoc]; exact inU_bits _ _ _
theorem wPre_in (bs : List Int) (k j : Nat) : InU ((wPre bs k).getD j 0) := by
  induction k with
  | zero => exact ⟨by simp [wPre], by simp [wPre]⟩
  | succ k ih =>
    rw [wPre_next]
    split
    · unfold wNext
      split
      · exact be4_in _
      · exact inU_mod _
    · exact ih
def za : Array Value := #[Value.int .u32 0, Value.int .u32 0, Value.int .u32 0, Value.int .u32 0, Value.int .u32 0, Value.int .u32 0, Value.int .u32 0, Value.int .u32 0, Value.int .u32 0, Value.int .u32 0, Value.int .u32 0, Value.int .u32 0, Value.int .u32 0, Value.int .u32 0, Value.int .u32 0, Value.int .u32 0, Value.int .u32 0, Value.int .u32 0, Value.int .u32 0, Value.int .u32 0, Value.int .u32 0, Value.int .u32 0, Value.int .u32 0, Value.int .u32 0, Value.int .u32 0, Value.int .u32 0, Value.int .u32 0, Value.int .u32 0, Value.int .u32 0, Value.int .u32 0, Value.int .u32 0, Value.int .u32 0, Value.int .u32 0, Value.int .u32 0, Value.int .u32 0, Value.int .u32 0, Value.int .u32 0, Value.int .u32 0, Value.int .u32 0, Value.int .u32 0, Value.int .u32 0, Value.int .u32 0, Value.int .u32 0, Value.int .u32 0, Value.int .u32 0, Value.int .u32 0, Value.int .u32 0, Value.int .u32 0, Value.int .u32 0, Value.int .u32 0, Value.int .u32 0, Value.int .u32 0, Value.int .u32 0, Value.int .u32 0, Value.int .u32 0, Value.int .u32 0, Value.int .u32 0, Value.int .u32 0, Value.int .u32 0, Value.int .u32 0, Value.int .u32 0, Value.int .u32 0, Value.int .u32 0, Value.int .u32 0]
theorem za_drop : za.toList = List.replicate 64 (.int .u32 0) := by kernel_rfl
theorem za_at (j : Nat) (h : j < 64) : za[0 + j]? = some (.int .u32 0) := by
  rw [← Array.getElem?_toList, za_drop, List.getElem?_replicate, if_pos (by omega)]
theorem za_size : za.size = 64 := by kernel_rfl


end Go.Proofs.YtbhoakohpfdeoaaGreat
