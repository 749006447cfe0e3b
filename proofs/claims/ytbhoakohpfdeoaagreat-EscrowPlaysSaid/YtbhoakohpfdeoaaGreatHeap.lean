/- What is kept of a heap: 'Keeps S w w'': nothing that was there turned, but in blocks of S. Blocks known whole; encoders. -/
import Derived.Test.YtbhoakohpfdeoaaGreatFrame
import Derived.Deep.AppendLies
import Derived.Deep.AppendSrc
import Derived.Deep.QuietTactic
import Derived.BigQuiet
import Derived.Deep.RegionLaw
import Derived.Deep.DeepMust
import Derived.Lib.SliceRun
import Derived.Deep.RegionHeld3
namespace Go.Proofs.YtbhoakohpfdeoaaGreat
open Go.RowKit
set_option linter.unusedVariables false

theorem addr_add (b off n : Nat) : (⟨b, off, none⟩ : Addr).add n = ⟨b, off + n, none⟩ := by unfold Addr.add; split <;> simp_all

structure Keeps (S : Nat → Prop) (w w' : World) : Prop where
  os : w'.os = w.os
  tape : w'.tape = w.tape
  output : w'.output = w.output
  size : w.heap.size ≤ w'.heap.size
  block : ∀ k, k < w.heap.size → ¬ S k → w'.heap[k]? = w.heap[k]?

theorem Keeps.refl (S : Nat → Prop) (w : World) : Keeps S w w := ⟨rfl, rfl, rfl, Nat.le_refl _, fun _ _ _ => rfl⟩
theorem Keeps.trans {S S' : Nat → Prop} {a b c : World} (h : Keeps S a b) (k : Keeps S' b c) (hs : ∀ i, S' i → S i ∨ a.heap.size ≤ i) : Keeps S a c :=
  ⟨k.os.trans h.os, k.tape.trans h.tape, k.output.trans h.output, Nat.le_trans h.size k.size, fun i hi hn =>
    (k.block i (Nat.lt_of_lt_of_le hi h.size) (fun hS => by rcases hs i hS with h1 | h1; exact hn h1; omega)).trans (h.block i hi hn)⟩
theorem Keeps.mono {S S' : Nat → Prop} {a b : World} (h : Keeps S a b) (hs : ∀ i, i < a.heap.size → S i → S' i) : Keeps S' a b :=
  ⟨h.os, h.tape, h.output, h.size, fun i hi hn => h.block i hi (fun hS => hn (hs i hi hS))⟩
theorem Keeps.drew {S : Nat → Prop} {a w : World} (h : Keeps S a w) : Keeps S a w.drew := ⟨h.os, h.tape, h.output, h.size, h.block⟩
theorem Keeps.drewN {S : Nat → Prop} {a w : World} (h : Keeps S a w) (n : Nat) : Keeps S a (w.drewN n) := ⟨h.os, h.tape, h.output, h.size, h.block⟩
theorem Keeps.alloc {S : Nat → Prop} {a w : World} (h : Keeps S a w) (o : Obj) : Keeps S a (w.alloc o) :=
  h.trans (S' := fun _ => False) ⟨rfl, rfl, rfl, by simp, fun k hk _ => Below.heap_alloc _ _ _ hk⟩ (fun _ hf => hf.elim)
theorem Keeps.setCell {S : Nat → Prop} {a w : World} (h : Keeps S a w) {p : Addr} (hp : S p.block ∨ a.heap.size ≤ p.block) (u : Value) : Keeps S a (w.setCell p u) :=
  h.trans (S' := fun k => k = p.block) ⟨rfl, rfl, rfl, by simp [World.setCell], fun k hk hn => Below.heap_setCell _ _ _ _ hn⟩ (fun i hi => by subst hi; exact hp)
theorem Keeps.grown {S : Nat → Prop} {a w w' : World} {row : Option Nat} (h : Keeps S a w) (hg : w.grownBy w' row) (hr : ∀ k, row = some k → S k ∨ a.heap.size ≤ k) : Keeps S a w' :=
  h.trans (S' := fun k => row = some k) ⟨hg.os, hg.tape, hg.output, hg.size, fun k hk hn => hg.block k hk (fun e => hn e.symm)⟩ hr
theorem Keeps.below {S : Nat → Prop} {a w : World} {B : Nat} (h : Keeps S a w) (hB : B ≤ a.heap.size) (hs : ∀ k, S k → B ≤ k) : Below B a w :=
  ⟨h.os, h.tape, h.output, h.size, fun k hk => h.block k (Nat.lt_of_lt_of_le hk hB) (fun hS => by have := hs k hS; omega)⟩
theorem Keeps.of_below {S : Nat → Prop} {a w : World} (h : Below a.heap.size a w) : Keeps S a w := ⟨h.os, h.tape, h.output, h.size, fun k hk _ => h.block k hk⟩

/-- A block known whole. -/
theorem blk_cell {w : World} {p : Nat} {cs : Array Value} {t : TypeId} {fr : Nat × Nat} (hb : w.heap[p]? = some (.cells cs t fr)) (j : Nat) : w.cell? ⟨p, j, none⟩ = cs[j]? := by
  simp [World.cell?, hb]
theorem blk_frozen {w : World} {p : Nat} {cs : Array Value} {t : TypeId} (hb : w.heap[p]? = some (.cells cs t (0, 0))) (j : Nat) : w.frozen? ⟨p, j, none⟩ = false := by
  simp [World.frozen?, hb]
theorem blk_lt {w : World} {p : Nat} {o : Obj} (hb : w.heap[p]? = some o) : p < w.heap.size := (Array.getElem?_eq_some_iff.1 hb).1
theorem blk_set {w : World} {p : Nat} {cs : Array Value} {t : TypeId} {fr : Nat × Nat} (hb : w.heap[p]? = some (.cells cs t fr)) (j : Nat) (u : Value) :
    (w.setCell ⟨p, j, none⟩ u).heap[p]? = some (.cells (cs.setIfInBounds j u) t fr) := by
  simp only [World.setCell, Array.getElem?_modify, hb]
  simp

/-- An owned row depends on its own block alone. -/
theorem ownsRow_same {w w' : World} {base : Nat} {e : TypeId} {size : Nat} {v : Value} {n : Nat} {xs : List Value} (h : w.ownsRow base e size v n xs) (hs : ∀ g, v.ownBlock = some g → w'.heap[g]? = w.heap[g]?) : w'.ownsRow base e size v n xs := by
  refine ⟨h.1, ?_⟩
  rcases h.2 with hn | ⟨g, cap, cur, rfl, hb, hg, rest⟩
  · exact Or.inl hn
  · exact Or.inr ⟨g, cap, cur, rfl, hb, (hs g rfl).trans hg, rest⟩

/-- append of whatever slice (nil too) onto a row of one's own: the new value written out, and where it lies. -/
theorem run_append_any {P : Program} (w : World) (t ty e : TypeId) (i : TypeInfo) (z : Value) (size bytes : Nat) (ht : P.underlying t = some (.slice e)) (hi : P.info? e = some i) (hz : i.zero = some z)
    (hsize : i.size = size) (hby : i.bytes = bytes) (hzs : z.cells.size = size) (hsz : 0 < size)
    (v : Value) (n : Nat) (xs : List Value) (hown : w.ownsRow 0 e size v n xs)
    (sa : Option Addr) (m c : Nat) (news : List Value) (hl : news.length = m * size) (h0 : sa = none → m = 0) (hnews : ∀ ad, sa = some ad → ∀ j u, news[j]? = some u → w.cell? (ad.add j) = some u) (h1 : ∀ u ∈ news, u.oneCell' = true)
    (h63 : n + m ≤ maxLen) (hbytes : (n + m) * bytes ≤ 140737488355328) :
    ∃ ao cap w', (Builtin.append_ #[t, t] ty #[v, .slice sa m c]).run P w = .ok (.slice ao (n + m) cap) w' ∧ w'.ownsRow 0 e size (.slice ao (n + m) cap) (n + m) (xs ++ news) ∧ w.grownBy w' v.ownBlock ∧
      (∀ g, (Value.slice ao (n + m) cap).ownBlock = some g → v.ownBlock = some g ∨ g = w.heap.size) ∧ (ao = none → n + m = 0) := by
  cases sa with
  | some ad =>
    obtain ⟨v', w', hr, h2, h3, _, h5⟩ := run_append_own_at (P := P) w 0 t ty e i z size bytes ht hi hz hsize hby hzs hsz v n xs hown ad m c news hl (hnews ad rfl) h1 h63 hbytes (Nat.zero_le _)
    have hf : ∃ ao cap, v' = .slice ao (n + m) cap ∧ (ao = none → n + m = 0) := by
      rcases h2.2 with ⟨hv, hn⟩ | ⟨g, cap, cur, hv, _⟩
      · exact ⟨none, 0, by rw [hv, hn], fun _ => hn⟩
      · exact ⟨_, cap, hv, fun e => by cases e⟩
    obtain ⟨ao, cap, rfl, hnn⟩ := hf
    refine ⟨ao, cap, w', hr, h2, h3, fun g hg => ?_, hnn⟩
    rcases h5 with h5 | h5
    · exact Or.inl (h5 ▸ hg)
    · rw [h5] at hg; cases hg; exact Or.inr rfl
  | none =>
    have hm := h0 rfl
    subst hm
    have hn : news = [] := List.eq_nil_of_length_eq_zero (by simpa using hl)
    subst hn
    have hf : ∃ ao cap, v = .slice ao (n + 0) cap ∧ (ao = none → n + 0 = 0) ∧ (n ≤ cap) := by
      rcases hown.2 with ⟨hv, hn⟩ | ⟨g, cap, cur, hv, _, _, hc, _⟩
      · exact ⟨none, 0, by rw [hv, hn], fun _ => hn, by omega⟩
      · exact ⟨_, cap, hv, fun e => by (cases e), hc⟩
    obtain ⟨ao, cap, hv, hnn, hc⟩ := hf
    refine ⟨ao, cap, w, ?_, by rw [← hv]; simpa using hown, ⟨rfl, rfl, rfl, Nat.le_refl _, fun _ _ _ => rfl⟩, fun g hg => Or.inl (by rw [hv]; exact hg), hnn⟩
    rw [hv]
    simp only [Nat.add_zero]
    have hsx : Src P i.size t (.slice none 0 c) 0 [] w := Src.ofNil (e' := e) w ht c
    rcases hown.2 with ⟨hv', hn'⟩ | ⟨g, cap', cur, hv', _, hg, hc', _⟩
    · rw [hv] at hv'; simp only [Value.slice.injEq] at hv'
      obtain ⟨rfl, _, rfl⟩ := hv'
      subst hn'
      simp [Builtin.append_, run_underlying ht, sizeOf, typeInfo, hi, Builtin.lenOf, Builtin.firstCells]
    · rw [hv] at hv'; simp only [Value.slice.injEq] at hv'
      obtain ⟨rfl, _, rfl⟩ := hv'
      have hr := run_append_room_src (P := P) w t t ty e i ht hi g 0 n cap (.slice none 0 c) 0 [] hsx (by omega) (by simp) (by simp)
      simpa [World.setCells] using hr

theorem wp_append_any {P : Program} {w : World} {o : Oper} {a : Act} {K : Act → World → Prop} {Q : Exit → Act → World → Prop} (s x : Operand) (t : TypeId)
    (ho : o.op = .call { callee := .builtin .append, args := #[s, x], argTypes := #[t, t] })
    (e : TypeId) (i : TypeInfo) (z : Value) (size bytes : Nat) (ht : P.underlying t = some (.slice e)) (hi : P.info? e = some i) (hz : i.zero = some z)
    (hsize : i.size = size) (hby : i.bytes = bytes) (hzs : z.cells.size = size) (hsz : 0 < size)
    (v : Value) (n : Nat) (xs : List Value) (hs : a.eval s = v) (hown : w.ownsRow 0 e size v n xs)
    (sa : Option Addr) (m c : Nat) (news : List Value) (hx : a.eval x = .slice sa m c) (hl : news.length = m * size) (h0 : sa = none → m = 0) (hnews : ∀ ad, sa = some ad → ∀ j u, news[j]? = some u → w.cell? (ad.add j) = some u) (h1 : ∀ u ∈ news, u.oneCell' = true)
    (h63 : n + m ≤ maxLen) (hbytes : (n + m) * bytes ≤ 140737488355328)
    (h : ∀ ao cap w', w'.ownsRow 0 e size (.slice ao (n + m) cap) (n + m) (xs ++ news) → w.grownBy w' v.ownBlock → (∀ g, (Value.slice ao (n + m) cap).ownBlock = some g → v.ownBlock = some g ∨ g = w.heap.size) → (ao = none → n + m = 0) → K (a.put o.dst (.slice ao (n + m) cap)) w') : o.wp P a w K Q := by
  obtain ⟨ao, cap, w', hr, h2, h3, h4, h5⟩ := run_append_any (P := P) w t o.type e i z size bytes ht hi hz hsize hby hzs hsz v n xs hown sa m c news hl h0 hnews h1 h63 hbytes
  unfold Oper.wp execOp
  simp only [ho, resolve, invoke, builtin, Sem.run_bind, Sem.run_pure, Result.andThen_ok, List.map_toArray, List.map_cons, List.map_nil, hs, hx, hr]
  exact h ao cap w' h2 h3 h4 h5

theorem wpList_append_any {P : Program} {w : World} {ops : Array Oper} {rest : List Oper} {o : Oper} {a : Act} {Q : Exit → Act → World → Prop} (hgd : o.guard = none) (s x : Operand) (t : TypeId)
    (ho : o.op = .call { callee := .builtin .append, args := #[s, x], argTypes := #[t, t] })
    (e : TypeId) (i : TypeInfo) (z : Value) (size bytes : Nat) (ht : P.underlying t = some (.slice e)) (hi : P.info? e = some i) (hz : i.zero = some z)
    (hsize : i.size = size) (hby : i.bytes = bytes) (hzs : z.cells.size = size) (hsz : 0 < size)
    (v : Value) (n : Nat) (xs : List Value) (hs : a.eval s = v) (hown : w.ownsRow 0 e size v n xs)
    (sa : Option Addr) (m c : Nat) (news : List Value) (hx : a.eval x = .slice sa m c) (hl : news.length = m * size) (h0 : sa = none → m = 0) (hnews : ∀ ad, sa = some ad → ∀ j u, news[j]? = some u → w.cell? (ad.add j) = some u) (h1 : ∀ u ∈ news, u.oneCell' = true)
    (h63 : n + m ≤ maxLen) (hbytes : (n + m) * bytes ≤ 140737488355328)
    (h : ∀ ao cap w', w'.ownsRow 0 e size (.slice ao (n + m) cap) (n + m) (xs ++ news) → w.grownBy w' v.ownBlock → (∀ g, (Value.slice ao (n + m) cap).ownBlock = some g → v.ownBlock = some g ∨ g = w.heap.size) → (ao = none → n + m = 0) → wpList P ops Q rest (a.put o.dst (.slice ao (n + m) cap)) w') : wpList P ops Q (o :: rest) a w :=
  wpList_plain hgd fun _ hK => wp_append_any s x t ho e i z size bytes ht hi hz hsize hby hzs hsz v n xs hs hown sa m c news hx hl h0 hnews h1 h63 hbytes fun ao cap w' h2 h3 h4 h5 => hK _ _ (h ao cap w' h2 h3 h4 h5)

theorem step_append_any {P : Program} {w : World} {ops : Array Oper} {o : Oper} {a : Act} {K : Act → World → Prop} {Q : Exit → Act → World → Prop} {E : Prop} (hgd : o.guard = none) (s x : Operand) (t : TypeId)
    (ho : o.op = .call { callee := .builtin .append, args := #[s, x], argTypes := #[t, t] })
    (e : TypeId) (i : TypeInfo) (z : Value) (size bytes : Nat) (ht : P.underlying t = some (.slice e)) (hi : P.info? e = some i) (hz : i.zero = some z)
    (hsize : i.size = size) (hby : i.bytes = bytes) (hzs : z.cells.size = size) (hsz : 0 < size)
    (v : Value) (n : Nat) (xs : List Value) (hs : a.eval s = v) (hown : w.ownsRow 0 e size v n xs)
    (sa : Option Addr) (m c : Nat) (news : List Value) (hx : a.eval x = .slice sa m c) (hl : news.length = m * size) (h0 : sa = none → m = 0) (hnews : ∀ ad, sa = some ad → ∀ j u, news[j]? = some u → w.cell? (ad.add j) = some u) (h1 : ∀ u ∈ news, u.oneCell' = true)
    (h63 : n + m ≤ maxLen) (hbytes : (n + m) * bytes ≤ 140737488355328)
    (h : ∀ ao cap w', w'.ownsRow 0 e size (.slice ao (n + m) cap) (n + m) (xs ++ news) → w.grownBy w' v.ownBlock → (∀ g, (Value.slice ao (n + m) cap).ownBlock = some g → v.ownBlock = some g ∨ g = w.heap.size) → (ao = none → n + m = 0) → K (a.put o.dst (.slice ao (n + m) cap)) w') :
    if Region.wanted o (yielded ops a.tmps) = true then Oper.wp P o a w K Q else E := by
  have hw : Region.wanted o (yielded ops a.tmps) = true := by simp [Region.wanted, hgd]
  rw [if_pos hw]
  exact wp_append_any s x t ho e i z size bytes ht hi hz hsize hby hzs hsz v n xs hs hown sa m c news hx hl h0 hnews h1 h63 hbytes h

/-- What IntsAt gives an append's source. -/
theorem src_ints {k : IntKind} {w : World} {ao : Option Addr} {zs : List Int} (h : IntsAt k w ao zs) : ∀ ad, ao = some ad → ∀ j u, (zs.map (Value.int k))[j]? = some u → w.cell? (ad.add j) = some u := by
  intro ad had j u hu
  rcases h with rfl | ⟨b, off, rfl, hc⟩
  · simp at hu
  · cases had
    have hj : j < zs.length := by
      have := (List.getElem?_eq_some_iff.1 hu).1; simpa using this
    rw [addr_add, hc j hj]
    simp [List.getElem?_eq_getElem hj] at hu
    subst hu
    simp [List.getD, hj]
theorem ints_one (k : IntKind) (zs : List Int) : ∀ u ∈ zs.map (Value.int k), u.oneCell' = true := by
  intro u hu
  obtain ⟨z, _, rfl⟩ := List.mem_map.1 hu
  rfl
theorem ints_none {k : IntKind} {w : World} {zs : List Int} (h : IntsAt k w none zs) : zs.length = 0 := by
  rcases h with rfl | ⟨b, off, h, _⟩
  · rfl
  · cases h

/-- An encoder: its bytes and its error, in block p; the bytes lie in a row of its own. -/
def EncAt (T : TypeId) (w : World) (p : Nat) (v : Value) (bs : List Int) (e : Int) : Prop :=
  w.heap[p]? = some (.cells #[v, .int .i64 e] T (0, 0)) ∧ w.ownsRow 0 5 1 v bs.length (bs.map (Value.int .u8)) ∧ v.ownBlock ≠ some p
def fpE (p : Nat) (v : Value) (k : Nat) : Prop := k = p ∨ v.ownBlock = some k
def EncPost (T : TypeId) (w : World) (p : Nat) (v : Value) (bs : List Int) (e : Int) (w' : World) : Prop :=
  ∃ v', EncAt T w' p v' bs e ∧ Keeps (fpE p v) w w' ∧ (∀ g, v'.ownBlock = some g → v.ownBlock = some g ∨ w.heap.size ≤ g)
/-- A row of bytes of the call's own: what a call hands back. -/
def RowAt (w0 : World) (v : Value) (zs : List Int) (w : World) : Prop :=
  w.ownsRow 0 5 1 v zs.length (zs.map (Value.int .u8)) ∧ Below w0.heap.size w0 w ∧ (∀ g, v.ownBlock = some g → w0.heap.size ≤ g)
def RowPost (w : World) (zs : List Int) (e : Ending) (w' : World) : Prop :=
  ∃ ao cap, e = .returned (.slice ao zs.length cap) ∧ RowAt w (.slice ao zs.length cap) zs w'
def RowPost2 (w : World) (zs : List Int) (er : Int) (e : Ending) (w' : World) : Prop :=
  ∃ ao cap, e = .returned (.tuple #[.slice ao zs.length cap, .int .i64 er]) ∧ RowAt w (.slice ao zs.length cap) zs w'

theorem EncAt.lt {T : TypeId} {w : World} {p : Nat} {v : Value} {bs : List Int} {e : Int} (h : EncAt T w p v bs e) : ∀ k, fpE p v k → k < w.heap.size := by
  rintro k (rfl | hk)
  · exact blk_lt h.1
  · exact (h.2.1.lt k hk).2
theorem EncAt.keep {T : TypeId} {w w' : World} {p : Nat} {v : Value} {bs : List Int} {e : Int} {S : Nat → Prop} (h : EncAt T w p v bs e) (hk : Keeps S w w') (hs : ∀ k, fpE p v k → ¬ S k) : EncAt T w' p v bs e :=
  ⟨(hk.block p (h.lt p (Or.inl rfl)) (hs p (Or.inl rfl))).trans h.1, ownsRow_same h.2.1 (fun g hg => hk.block g (h.lt g (Or.inr hg)) (hs g (Or.inr hg))), h.2.2⟩

theorem owns_at {w : World} {base : Nat} {e : TypeId} {k : IntKind} {ao : Option Addr} {n cap : Nat} {zs : List Int} (h : w.ownsRow base e 1 (.slice ao n cap) n (zs.map (Value.int k))) : zs.length = n ∧ IntsAt k w ao zs ∧ n ≤ cap ∧ cap ≤ maxLen := by
  have hl := h.1
  simp at hl
  rcases h.2 with ⟨hv, hn⟩ | ⟨g, cap', cur, hv, _, hh, hn, hm, hs, ht⟩
  · simp only [Value.slice.injEq] at hv
    obtain ⟨rfl, rfl, rfl⟩ := hv
    exact ⟨hl, Or.inl (List.length_eq_zero_iff.1 hl), by omega, by unfold maxLen; omega⟩
  · simp only [Value.slice.injEq] at hv
    obtain ⟨rfl, _, rfl⟩ := hv
    refine ⟨hl, Or.inr ⟨g, 0, rfl, fun i hi => ?_⟩, hn, hm⟩
    have := h.cells (g := g) rfl i (.int k (zs.getD i 0)) (by simp [List.getD, hi])
    rwa [addr_add] at this
theorem IntsAt.same {k : IntKind} {w w' : World} {ao : Option Addr} {zs : List Int} (h : IntsAt k w ao zs) (hs : ∀ a, ao = some a → a.block < w.heap.size → w'.heap[a.block]? = w.heap[a.block]?) : IntsAt k w' ao zs := by
  rcases h with rfl | ⟨b, off, rfl, hc⟩
  · exact Or.inl rfl
  · refine Or.inr ⟨b, off, rfl, fun i hi => ?_⟩
    have hl := World.block_lt_of_cell? w _ (hc i hi)
    exact (World.cell?_of_block (a := ⟨b, off + i, none⟩) (hs ⟨b, off, none⟩ rfl hl)).trans (hc i hi)
theorem ints_below {k : IntKind} {w w' : World} {ao : Option Addr} {zs : List Int} (h : IntsAt k w ao zs) (hb : Below w.heap.size w w') : IntsAt k w' ao zs := h.same (fun a _ hl => hb.block _ hl)
theorem ret_val {a b : Value} (h : a = b) : Ending.returned a = .returned b := by rw [h]
theorem IntsAt.lt {k : IntKind} {w : World} {a : Addr} {zs : List Int} (h : IntsAt k w (some a) zs) (h0 : zs ≠ []) : a.block < w.heap.size := by
  rcases h with rfl | ⟨b, off, he, hc⟩
  · exact (h0 rfl).elim
  · cases he
    have : 0 < zs.length := List.length_pos_iff.2 h0
    exact World.block_lt_of_cell? w _ (hc 0 this)

theorem enc_app {T : TypeId} {wr wa w1 : World} {p : Nat} {v : Value} {bs zs : List Int} {e : Int} {ao : Option Addr} {N cap : Nat}
    (h : EncAt T wr p v bs e) (hwa : Keeps (fun _ => False) wr wa)
    (hown : w1.ownsRow 0 5 1 (.slice ao N cap) N ((bs ++ zs).map (Value.int .u8))) (hgrow : wa.grownBy w1 v.ownBlock) (hat : ∀ g, (Value.slice ao N cap).ownBlock = some g → v.ownBlock = some g ∨ wr.heap.size ≤ g) :
    EncPost T wr p v (bs ++ zs) e (w1.setCell ⟨p, 0, none⟩ (.slice ao N cap)) := by
  have hpl := blk_lt h.1
  have hgp : ∀ g, (Value.slice ao N cap).ownBlock = some g → g ≠ p := by
    intro g hg e'
    rcases hat g hg with e | e
    · exact h.2.2 (by rw [e, e'])
    · omega
  have hpb : w1.heap[p]? = some (.cells #[v, .int .i64 e] T (0, 0)) := by
    rw [hgrow.block p (by have := hwa.size; omega) (fun e => h.2.2 e.symm), hwa.block p hpl (fun f => f)]; exact h.1
  have hkw : Keeps (fpE p v) wr w1 := (hwa.mono (fun _ _ f => f.elim)).grown hgrow (fun k hk' => Or.inl (Or.inr hk'))
  have hN : (bs ++ zs).length = N := (owns_at hown).1
  refine ⟨_, ⟨?_, ?_, fun hx => hgp p hx rfl⟩, hkw.setCell (Or.inl (Or.inl rfl)) _, hat⟩
  · have := blk_set hpb 0 (.slice ao N cap)
    simpa using this
  · rw [hN]
    exact ownsRow_same hown (fun g' hg' => Below.heap_setCell _ _ _ _ (hgp g' hg'))
theorem EncPost.trans {T : TypeId} {w w1 w2 : World} {p : Nat} {v v1 : Value} {bs : List Int} {e : Int} (hK : Keeps (fpE p v) w w1) (hF : ∀ g, v1.ownBlock = some g → v.ownBlock = some g ∨ w.heap.size ≤ g) (h : EncPost T w1 p v1 bs e w2) : EncPost T w p v bs e w2 := by
  obtain ⟨v2, h1, h2, h3⟩ := h
  refine ⟨v2, h1, hK.trans h2 ?_, fun g hg => ?_⟩
  · rintro i (hi | hi)
    · exact Or.inl (Or.inl hi)
    · rcases hF i hi with h | h
      · exact Or.inl (Or.inr h)
      · exact Or.inr h
  · rcases h3 g hg with h | h
    · exact hF g h
    · exact Or.inr (Nat.le_trans hK.size h)
theorem EncPost.refl {T : TypeId} {w : World} {p : Nat} {v : Value} {bs : List Int} {e : Int} (h : EncAt T w p v bs e) : EncPost T w p v bs e w := ⟨v, h, Keeps.refl _ _, fun _ h => Or.inl h⟩
theorem enc_err {T : TypeId} {w : World} {p : Nat} {v : Value} {bs : List Int} {e : Int} (h : EncAt T w p v bs e) (e' : Int) : EncPost T w p v bs e' (w.setCell ⟨p, 1, none⟩ (.int .i64 e')) := by
  obtain ⟨hp, hown, hne⟩ := h
  exact ⟨v, ⟨by simpa using blk_set hp 1 (.int .i64 e'), ownsRow_same hown (fun g hg => Below.heap_setCell _ _ _ _ (fun e => hne (by rw [hg, e]))), hne⟩, (Keeps.refl _ _).setCell (Or.inl (Or.inl rfl)) _, fun _ h => Or.inl h⟩

end Go.Proofs.YtbhoakohpfdeoaaGreat
