/- A row of bytes in a box with a second cell; append of a string; a range over a string. -/
import Derived.Test.YtbhoakohpfdeoaaGreatHeap
import Derived.Lib.AppendStr
import Derived.Laws.RangeString
namespace Go.Proofs.YtbhoakohpfdeoaaGreat
open Go.RowKit
set_option linter.unusedVariables false

def BufAt (T : TypeId) (w : World) (p : Nat) (v : Value) (bs : List Int) (x : Value) : Prop :=
  w.heap[p]? = some (.cells #[v, x] T (0, 0)) ∧ w.ownsRow 0 5 1 v bs.length (bs.map (Value.int .u8)) ∧ v.ownBlock ≠ some p
def BufPost (T : TypeId) (w : World) (p : Nat) (v : Value) (bs : List Int) (x : Value) (w' : World) : Prop :=
  ∃ v', BufAt T w' p v' bs x ∧ Keeps (fpE p v) w w' ∧ (∀ g, v'.ownBlock = some g → v.ownBlock = some g ∨ w.heap.size ≤ g)
section
variable {T : TypeId} {w w' w1 w2 : World} {p : Nat} {v v1 : Value} {bs : List Int} {x : Value}
theorem BufAt.lt (h : BufAt T w p v bs x) : ∀ k, fpE p v k → k < w.heap.size := by
  rintro k (rfl | hk)
  · exact blk_lt h.1
  · exact (h.2.1.lt k hk).2
theorem BufAt.keep {S : Nat → Prop} (h : BufAt T w p v bs x) (hk : Keeps S w w') (hs : ∀ k, fpE p v k → ¬ S k) : BufAt T w' p v bs x :=
  ⟨(hk.block p (h.lt p (Or.inl rfl)) (hs p (Or.inl rfl))).trans h.1, ownsRow_same h.2.1 (fun g hg => hk.block g (h.lt g (Or.inr hg)) (hs g (Or.inr hg))), h.2.2⟩
theorem BufAt.below (h : BufAt T w p v bs x) (hb : Below w.heap.size w w') : BufAt T w' p v bs x := h.keep (Keeps.of_below (S := fun _ => False) hb) (fun _ _ f => f)
theorem BufAt.cells (h : BufAt T w p v bs x) : w.cell? ⟨p, 0, none⟩ = some v ∧ w.cell? ⟨p, 1, none⟩ = some x ∧ w.frozen? ⟨p, 0, none⟩ = false ∧ w.frozen? ⟨p, 1, none⟩ = false := by
  have c0 := blk_cell h.1 0
  have c1 := blk_cell h.1 1
  simp only [List.getElem?_toArray, List.getElem?_cons_zero, List.getElem?_cons_succ] at c0 c1
  exact ⟨c0, c1, blk_frozen h.1 0, blk_frozen h.1 1⟩
theorem BufPost.refl (h : BufAt T w p v bs x) : BufPost T w p v bs x w := ⟨v, h, Keeps.refl _ _, fun _ h => Or.inl h⟩
theorem BufPost.trans (hK : Keeps (fpE p v) w w1) (hF : ∀ g, v1.ownBlock = some g → v.ownBlock = some g ∨ w.heap.size ≤ g) (h : BufPost T w1 p v1 bs x w2) : BufPost T w p v bs x w2 := by
  obtain ⟨v2, h1, h2, h3⟩ := h
  refine ⟨v2, h1, hK.trans h2 ?_, fun g hg => ?_⟩
  · rintro i (hi | hi)
    · exact Or.inl (Or.inl hi)
    · rcases hF i hi with h | h
      · exact Or.inl (Or.inr h)
      · exact Or.inr h
  · rcases h3 g hg with h | h
    · exact hF g h
    · exact Or.inr (Nat.le_trans hK.size h)
theorem buf_set (h : BufAt T w p v bs x) (y : Value) : BufPost T w p v bs y (w.setCell ⟨p, 1, none⟩ y) := by
  obtain ⟨hp, hown, hne⟩ := h
  exact ⟨v, ⟨by simpa using blk_set hp 1 y, ownsRow_same hown (fun g hg => Below.heap_setCell _ _ _ _ (fun e => hne (by rw [hg, e]))), hne⟩, (Keeps.refl _ _).setCell (Or.inl (Or.inl rfl)) _, fun _ h => Or.inl h⟩
theorem buf_app {wa : World} {zs : List Int} {ao : Option Addr} {N cap : Nat}
    (h : BufAt T w p v bs x) (hwa : Keeps (fun _ => False) w wa)
    (hown : w1.ownsRow 0 5 1 (.slice ao N cap) N ((bs ++ zs).map (Value.int .u8))) (hgrow : wa.grownBy w1 v.ownBlock) (hat : ∀ g, (Value.slice ao N cap).ownBlock = some g → v.ownBlock = some g ∨ w.heap.size ≤ g) :
    BufPost T w p v (bs ++ zs) x (w1.setCell ⟨p, 0, none⟩ (.slice ao N cap)) := by
  have hpl := blk_lt h.1
  have hgp : ∀ g, (Value.slice ao N cap).ownBlock = some g → g ≠ p := by
    intro g hg e'
    rcases hat g hg with e | e
    · exact h.2.2 (by rw [e, e'])
    · omega
  have hpb : w1.heap[p]? = some (.cells #[v, x] T (0, 0)) := by
    rw [hgrow.block p (by have := hwa.size; omega) (fun e => h.2.2 e.symm), hwa.block p hpl (fun f => f)]; exact h.1
  have hkw : Keeps (fpE p v) w w1 := (hwa.mono (fun _ _ f => f.elim)).grown hgrow (fun k hk' => Or.inl (Or.inr hk'))
  have hN : (bs ++ zs).length = N := (owns_at hown).1
  refine ⟨_, ⟨?_, ?_, fun hx => hgp p hx rfl⟩, hkw.setCell (Or.inl (Or.inl rfl)) _, hat⟩
  · have := blk_set hpb 0 (.slice ao N cap)
    simpa using this
  · rw [hN]
    exact ownsRow_same hown (fun g' hg' => Below.heap_setCell _ _ _ _ (hgp g' hg'))
theorem BufPost.below {B : Nat} (h : BufPost T w p v bs x w') (hB : B ≤ w.heap.size) (hp : B ≤ p) (hv : ∀ g, v.ownBlock = some g → B ≤ g) : Below B w w' := by
  obtain ⟨_, _, hK, _⟩ := h
  exact hK.below hB (fun k hk => by rcases hk with rfl | hk; exact hp; exact hv k hk)
theorem buf_new (w : World) (T : TypeId) (x : Value) : BufAt T (w.alloc (.cells #[.slice none 0 0, x] T)) w.heap.size (.slice none 0 0) [] x :=
  ⟨heap_alloc_new w _, World.ownsRow_nil _ _ _ _, fun h => by cases h⟩
end

/-- A string's bytes as numbers. -/
def strNums (s : ByteArray) : List Int := s.data.toList.map fun b => (b.toNat : Int)
theorem strNums_length (s : ByteArray) : (strNums s).length = s.size := by simp [strNums]
theorem strNums_cells (s : ByteArray) : (strNums s).map (Value.int .u8) = Lib.strCells s := by simp [strNums, Lib.strCells]
theorem strNums_in (s : ByteArray) : ∀ z ∈ strNums s, 0 ≤ z ∧ z ≤ 255 := by
  intro z hz
  simp only [strNums, List.mem_map] at hz
  obtain ⟨b, _, rfl⟩ := hz
  have := b.toNat_lt
  omega

theorem run_append_str {P : Program} (w : World) (t u ty e : TypeId) (i : TypeInfo) (ht : P.underlying t = some (.slice e)) (hu : P.underlying u = some .string) (hi : P.info? e = some i) (hz : i.zero = some (.int .u8 0))
    (hsize : i.size = 1) (hby : i.bytes = 1) (v : Value) (n : Nat) (xs : List Value) (hown : w.ownsRow 0 e 1 v n xs) (s : ByteArray) (h63 : n + s.size ≤ maxLen) (hbytes : n + s.size ≤ 140737488355328) :
    ∃ ao cap w', (Builtin.append_ #[t, u] ty #[v, .string s]).run P w = .ok (.slice ao (n + s.size) cap) w' ∧ w'.ownsRow 0 e 1 (.slice ao (n + s.size) cap) (n + s.size) (xs ++ Lib.strCells s) ∧ w.grownBy w' v.ownBlock ∧
      (∀ g, (Value.slice ao (n + s.size) cap).ownBlock = some g → v.ownBlock = some g ∨ g = w.heap.size) := by
  obtain ⟨v', w', hr, h2, h3, h4⟩ := Lib.run_append_own_string (P := P) w 0 t u ty e i ht hu hi hz hsize hby v n xs hown s h63 hbytes (Nat.zero_le _)
  have hf : ∃ ao cap, v' = .slice ao (n + s.size) cap := by
    rcases h2.2 with ⟨hv, hn⟩ | ⟨g, cap, cur, hv, _⟩
    · exact ⟨none, 0, by rw [hv, hn]⟩
    · exact ⟨_, cap, hv⟩
  obtain ⟨ao, cap, rfl⟩ := hf
  refine ⟨ao, cap, w', hr, h2, h3, fun g hg => ?_⟩
  have hm1 : n + s.size ≤ 9223372036854775807 := by unfold maxLen at h63; omega
  rcases hown.2 with ⟨rfl, rfl⟩ | ⟨g0, cap0, cur, rfl, _, hg0, hnc, hcm, hcs, htake⟩
  · by_cases hm : s.size = 0
    · rw [h4.2 ⟨rfl, hm⟩] at hg; cases hg
    · have hr2 := run_append_nil_string (P := P) w t u ty e i (.int .u8 0) ht hu hi hz s (by omega) (by omega) (by rw [hby]; omega)
      rw [hr] at hr2
      injection hr2 with h5 h6
      rw [h5] at hg
      simp only [Value.ownBlock, Option.some.injEq] at hg
      exact Or.inr hg.symm
  · by_cases hroom : n + s.size ≤ cap0
    · have hr2 := Lib.run_append_room_string (P := P) w t u ty e i ht hu hi hsize g0 n cap0 cur hg0 s hroom (by omega)
      rw [hr] at hr2
      injection hr2 with h5 h6
      rw [h5] at hg
      exact Or.inl hg
    · have hxl : xs.length = n := by simpa using hown.1
      have hr2 := Lib.run_append_grow_string (P := P) w t u ty e i (.int .u8 0) ht hu hi hz ⟨g0, 0, none⟩ n cap0 xs (by rw [hsize]; simpa using hxl) (hown.cells (g := g0) rfl) s (by omega) (by omega) (by rw [hby]; exact growslice_fits (by omega) (by omega))
      rw [hr] at hr2
      injection hr2 with h5 h6
      rw [h5] at hg
      simp only [Value.ownBlock, Option.some.injEq] at hg
      exact Or.inr hg.symm

theorem wp_append_str {P : Program} {w : World} {o : Oper} {a : Act} {K : Act → World → Prop} {Q : Exit → Act → World → Prop} (sl x : Operand) (t u : TypeId)
    (ho : o.op = .call { callee := .builtin .append, args := #[sl, x], argTypes := #[t, u] })
    (e : TypeId) (i : TypeInfo) (ht : P.underlying t = some (.slice e)) (hu : P.underlying u = some .string) (hi : P.info? e = some i) (hz : i.zero = some (.int .u8 0)) (hsize : i.size = 1) (hby : i.bytes = 1)
    (v : Value) (n : Nat) (xs : List Value) (hs : a.eval sl = v) (hown : w.ownsRow 0 e 1 v n xs) (s : ByteArray) (hx : a.eval x = .string s)
    (h63 : n + s.size ≤ maxLen) (hbytes : n + s.size ≤ 140737488355328)
    (h : ∀ ao cap w', w'.ownsRow 0 e 1 (.slice ao (n + s.size) cap) (n + s.size) (xs ++ Lib.strCells s) → w.grownBy w' v.ownBlock → (∀ g, (Value.slice ao (n + s.size) cap).ownBlock = some g → v.ownBlock = some g ∨ g = w.heap.size) → K (a.put o.dst (.slice ao (n + s.size) cap)) w') : o.wp P a w K Q := by
  obtain ⟨ao, cap, w', hr, h2, h3, h4⟩ := run_append_str (P := P) w t u o.type e i ht hu hi hz hsize hby v n xs hown s h63 hbytes
  unfold Oper.wp execOp
  simp only [ho, resolve, invoke, builtin, Sem.run_bind, Sem.run_pure, Result.andThen_ok, List.map_toArray, List.map_cons, List.map_nil, hs, hx, hr]
  exact h ao cap w' h2 h3 h4
theorem wpList_append_str {P : Program} {w : World} {ops : Array Oper} {rest : List Oper} {o : Oper} {a : Act} {Q : Exit → Act → World → Prop} (hgd : o.guard = none) (sl x : Operand) (t u : TypeId)
    (ho : o.op = .call { callee := .builtin .append, args := #[sl, x], argTypes := #[t, u] })
    (e : TypeId) (i : TypeInfo) (ht : P.underlying t = some (.slice e)) (hu : P.underlying u = some .string) (hi : P.info? e = some i) (hz : i.zero = some (.int .u8 0)) (hsize : i.size = 1) (hby : i.bytes = 1)
    (v : Value) (n : Nat) (xs : List Value) (hs : a.eval sl = v) (hown : w.ownsRow 0 e 1 v n xs) (s : ByteArray) (hx : a.eval x = .string s)
    (h63 : n + s.size ≤ maxLen) (hbytes : n + s.size ≤ 140737488355328)
    (h : ∀ ao cap w', w'.ownsRow 0 e 1 (.slice ao (n + s.size) cap) (n + s.size) (xs ++ Lib.strCells s) → w.grownBy w' v.ownBlock → (∀ g, (Value.slice ao (n + s.size) cap).ownBlock = some g → v.ownBlock = some g ∨ g = w.heap.size) → wpList P ops Q rest (a.put o.dst (.slice ao (n + s.size) cap)) w') : wpList P ops Q (o :: rest) a w :=
  wpList_plain hgd fun _ hK => wp_append_str sl x t u ho e i ht hu hi hz hsize hby v n xs hs hown s hx h63 hbytes fun ao cap w' h2 h3 h4 => hK _ _ (h ao cap w' h2 h3 h4)
theorem step_append_str {P : Program} {w : World} {ops : Array Oper} {o : Oper} {a : Act} {K : Act → World → Prop} {Q : Exit → Act → World → Prop} {E : Prop} (hgd : o.guard = none) (sl x : Operand) (t u : TypeId)
    (ho : o.op = .call { callee := .builtin .append, args := #[sl, x], argTypes := #[t, u] })
    (e : TypeId) (i : TypeInfo) (ht : P.underlying t = some (.slice e)) (hu : P.underlying u = some .string) (hi : P.info? e = some i) (hz : i.zero = some (.int .u8 0)) (hsize : i.size = 1) (hby : i.bytes = 1)
    (v : Value) (n : Nat) (xs : List Value) (hs : a.eval sl = v) (hown : w.ownsRow 0 e 1 v n xs) (s : ByteArray) (hx : a.eval x = .string s)
    (h63 : n + s.size ≤ maxLen) (hbytes : n + s.size ≤ 140737488355328)
    (h : ∀ ao cap w', w'.ownsRow 0 e 1 (.slice ao (n + s.size) cap) (n + s.size) (xs ++ Lib.strCells s) → w.grownBy w' v.ownBlock → (∀ g, (Value.slice ao (n + s.size) cap).ownBlock = some g → v.ownBlock = some g ∨ g = w.heap.size) → K (a.put o.dst (.slice ao (n + s.size) cap)) w') :
    if Region.wanted o (yielded ops a.tmps) = true then Oper.wp P o a w K Q else E := by
  have hw : Region.wanted o (yielded ops a.tmps) = true := by simp [Region.wanted, hgd]
  rw [if_pos hw]
  exact wp_append_str sl x t u ho e i ht hu hi hz hsize hby v n xs hs hown s hx h63 hbytes h

/-- One step of a range over a string of ASCII signs, wherever its iterator lies. -/
theorem next_step {P : Program} (w : World) (q : Nat) (s : ByteArray) (pos : Nat) (hq : w.heap[q]? = some (.stringIter s pos)) (h : pos < s.size) (ha : (s[pos]'h).toNat < 128) :
    ∃ w', (∀ ty, (Instr.next (.pointer (some ⟨q, 0, none⟩)) true ty).run P w = .ok (.tuple #[.bool true, .int .i64 pos, .int .i32 (s[pos]'h).toNat]) w') ∧ w'.heap[q]? = some (.stringIter s (pos + 1)) ∧ Keeps (fun k => k = q) w w' := by
  have hql := blk_lt hq
  refine ⟨{ w with heap := w.heap.setIfInBounds q (.stringIter s (pos + 1)) }, fun ty => ?_, ?_, ⟨rfl, rfl, rfl, by simp, fun k hk hn => ?_⟩⟩
  · simp only [Instr.next, getObj, setObj, Sem.run_bind, Sem.run, hq, Result.andThen, h, if_true, decode_ascii s pos h ha]
    simp [goInt]
  · simp [hql]
  · simp only []
    rw [Array.getElem?_setIfInBounds_ne (Ne.symm hn)]
theorem next_stop {P : Program} (w : World) (q : Nat) (s : ByteArray) (pos : Nat) (hq : w.heap[q]? = some (.stringIter s pos)) (h : ¬ pos < s.size) (ty : TypeId) :
    (Instr.next (.pointer (some ⟨q, 0, none⟩)) true ty).run P w = .ok (.tuple #[.bool false]) w := by
  simp [Instr.next, getObj, Sem.run, hq, h]

end Go.Proofs.YtbhoakohpfdeoaaGreat
