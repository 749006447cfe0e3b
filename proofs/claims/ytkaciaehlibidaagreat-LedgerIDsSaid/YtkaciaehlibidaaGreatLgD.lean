/- Contracts of sha.One, cflref1.Word, cflref1.Start. cfllaw2.first is true. Plain facts: are lists few and small? Arguments that are lists of byte slices, opened. Facts that all statements over sha use. Blocks of different types are different blocks; rows of one's own, read. A row of bytes in a box with a second cell; append of a string; a range over a string. Strings as bytes. -/
import Derived.Test.YtkaciaehlibidaaGreatShaR3
import Derived.Lib.SlBytesConst
import Derived.Test.YtkaciaehlibidaaGreatFrame
import Derived.Test.YtkaciaehlibidaaGreatLgB
import Derived.Deep.Slices
import Derived.Deep.Fields
import Derived.Test.YtkaciaehlibidaaGreatLgA
import Derived.Lib.AppendStr
import Derived.Laws.RangeString
import Derived.Lib.ConvBytes
namespace Go.Proofs.YtkaciaehlibidaaGreat
open Go.ChangeAt Go.ChangeShapes Go.Deep Go.RowKit Go.WideShapes
set_option linter.unusedVariables false
set_option linter.unusedSimpArgs false

theorem IntsAt.far {k : IntKind} {w : World} {ao : Option Addr} {zs : List Int} (h : IntsAt k w ao zs) {p : Nat} (hp : w.heap.size ≤ p) : zs = [] ∨ ∀ a, ao = some a → a.block ≠ p := by
  by_cases h0 : zs = []
  · exact Or.inl h0
  · refine Or.inr (fun a ha e => ?_)
    subst ha
    have := h.lt h0
    omega
theorem TabPost.ok {b : Nat} {w w' : World} (h : TabPost b w w') : TabOk w' b := Or.inr h.1

set_option maxHeartbeats 1000000 in
theorem one_any (tb : Nat) (ao : Option Addr) (bs : List Int) (n cap : Nat) (w : World) (ht : TabOk w tb) (hn : bs.length = n) (hz : IntsAt .u8 w ao bs) (hB : InB bs) (hd : bs = [] ∨ ∀ a, ao = some a → a.block ≠ tb) (hlen : n ≤ 1099511627776) :
    Calls Tryz.prog 102 #[.pointer (some ⟨tb, 0, none⟩), .slice ao n cap] w fun e w' => SumPost w tb (shaF bs) e w' := by
  have HT := Lib.hid ht
  have HN := Lib.hid hn
  have HZ := Lib.hid hz
  have HB := Lib.hid hB
  have HL := Lib.hid hlen
  have HD := Lib.hid hd
  have HNW := Lib.hid (new_any tb w ht)
  clear ht hn hz hB hlen hd
  go_enter Tryz.func102, Tryz.ntmps102
  go_wp2_with fail
  refine HNW.out.mono ?_
  rintro e w1 ⟨rfl, ht1, hh1, hk1⟩
  have HK1 := Lib.hid hk1
  have hz1 : IntsAt .u8 w1 ao bs := by
    rcases HD.out with h | h
    · exact Or.inl h
    · exact HZ.out.same (fun a ha hl => hk1.block a.block hl (h a ha))
  have HWR := Lib.hid (write_any w.heap.size tb _ [] w1 ht1 hh1 ao bs n cap HN.out hz1 HB.out (HZ.out.far (Nat.le_refl _)) (by have := HL.out; simp; omega))
  clear ht1 hh1 hk1 hz1
  go_wp2_with fail
  refine HWR.out.mono ?_
  rintro e w2 ⟨rfl, v, ht2, hh2, hk2, hf2⟩
  rw [List.nil_append] at hh2
  have HS := Lib.hid (shaSum_any w.heap.size tb v bs w2 ht2 hh2 (by have := HL.out; have := HN.out; omega))
  have HK2 : Hid (Keeps (fun i => i = tb) w w2) := Lib.hid (HK1.out.trans hk2 (fun i h => by
    rcases h with h | h | h
    · exact Or.inl h
    · exact Or.inr (by omega)
    · cases h))
  clear ht2 hh2 hk2 hf2
  go_wp2_with fail
  refine HS.out.mono ?_
  rintro e w3 ⟨g, c, rfl, ht3, ho3, hl3, hk3, hg3⟩
  have HO3 := Lib.hid ho3
  have HT3 := Lib.hid ht3
  have HL3 := Lib.hid hl3
  have HK3 := Lib.hid (HK2.out.trans hk3 (fun i h => Or.inl h))
  have HG3 := Lib.hid (Nat.le_trans HK2.out.size hg3)
  clear ht3 ho3 hl3 hk3 hg3
  go_wp2
  go_ret
  exact ⟨g, c, rfl, HT3.out, HO3.out, HL3.out, HK3.out, HG3.out⟩



theorem sha_nil : (shaF []).take 4 = [227, 176, 196, 66] := by decide +kernel
theorem sha_abc : (shaF [97, 98, 99]).take 4 = [186, 120, 22, 191] := by decide +kernel

theorem SumPost.row {w w' : World} {tb g cap : Nat} {zs : List Int} (ho : w'.ownsRow 0 5 1 (.slice (some ⟨g, 0, none⟩) 32 cap) 32 (zs.map (Value.int .u8))) : IntsAt .u8 w' (some ⟨g, 0, none⟩) zs := (owns_at ho).2.1
theorem cell_take {w : World} {g : Nat} {zs ys : List Int} (h : IntsAt .u8 w (some ⟨g, 0, none⟩) zs) (n : Nat) (ht : zs.take n = ys) (j : Nat) (hj : j < n) (hl : n ≤ zs.length) : w.cell? ⟨g, j, none⟩ = some (.int .u8 (ys.getD j 0)) := by
  rcases h with h | ⟨b, off, he, hc⟩
  · rw [h] at hl; simp at hl; omega
  · cases he
    have := hc j (by omega)
    rw [Nat.zero_add] at this
    rw [this, ← ht]
    simp [List.getD, List.getElem?_take, hj]


def fewB (ls : List Nat) (many room : Nat) : Bool := decide (ls.length ≤ many ∧ ((ls.take many).map (fun n => min n (room + 1))).sum ≤ room)
theorem sum_min_le : ∀ (ls : List Nat) (room : Nat), (ls.map (fun n => min n (room + 1))).sum ≤ room → ls.sum ≤ room
  | [], _, _ => by simp
  | l :: ls, room, h => by
    simp only [List.map_cons, List.sum_cons] at h ⊢
    have h1 : ∀ ls : List Nat, (ls.map (fun n => min n (room + 1))).sum ≤ room → (ls.map (fun n => min n (room + 1))).sum = ls.sum := by
      intro ls
      induction ls with
      | nil => simp
      | cons x xs ih =>
        intro hx
        simp only [List.map_cons, List.sum_cons] at hx ⊢
        have := ih (by omega)
        omega
    have := h1 ls (by omega)
    omega
theorem few_facts (ls : List Nat) (many room : Nat) (h : fewB ls many room = true) : ls.length ≤ many ∧ ls.sum ≤ room := by
  simp only [fewB, decide_eq_true_eq] at h
  rw [List.take_of_length_le h.1] at h
  exact ⟨h.1, sum_min_le ls room h.2⟩
theorem sum_min_bound (ls : List Nat) (room : Nat) : (ls.map (fun n => min n (room + 1))).sum ≤ ls.length * (room + 1) := by
  induction ls with
  | nil => simp
  | cons x xs ih => simp only [List.map_cons, List.sum_cons, List.length_cons]; rw [Nat.add_mul]; omega

theorem sum_take_succ (ls : List Nat) (k : Nat) (h : k < ls.length) : (ls.take (k + 1)).sum = (ls.take k).sum + ls[k] := by
  rw [List.take_succ_eq_append_getElem h, List.sum_append]; simp

/-- A byte slice as it stands in a cell. -/
structure BSl where
  ao : Option Addr
  zs : List Int
  cap : Nat
def BSl.val (b : BSl) : Value := .slice b.ao b.zs.length b.cap
def BSl.ok (w : World) (b : BSl) : Prop := IntsAt .u8 w b.ao b.zs ∧ InB b.zs ∧ b.zs.length ≤ b.cap ∧ b.cap ≤ maxLen ∧ (b.zs = [] ∨ ∀ a, b.ao = some a → a.block < w.heap.size)
def BytesList (w : World) (ao : Option Addr) (bs : List BSl) : Prop :=
  (bs = [] ∨ ∃ b off, ao = some ⟨b, off, none⟩ ∧ ∀ i (h : i < bs.length), w.cell? ⟨b, off + i, none⟩ = some bs[i].val) ∧ ∀ x ∈ bs, x.ok w

theorem BSl.ok.below {w w' : World} {b : BSl} (h : b.ok w) (hb : Below w.heap.size w w') : b.ok w' :=
  ⟨ints_below h.1 hb, h.2.1, h.2.2.1, h.2.2.2.1, h.2.2.2.2.imp id (fun h a ha => Nat.lt_of_lt_of_le (h a ha) hb.size)⟩
theorem BytesList.below {w w' : World} {ao : Option Addr} {bs : List BSl} (h : BytesList w ao bs) (hb : Below w.heap.size w w') : BytesList w' ao bs := by
  refine ⟨?_, fun x hx => (h.2 x hx).below hb⟩
  rcases h.1 with h | ⟨b, off, h1, h2⟩
  · exact Or.inl h
  · exact Or.inr ⟨b, off, h1, fun i hi => by
      have hl := World.block_lt_of_cell? w _ (h2 i hi)
      rw [hb.cell (p := ⟨b, off + i, none⟩) hl]; exact h2 i hi⟩

theorem inB_of_wf {zs : List Int} (h : ∀ n ∈ zs, (Lit.int .u8 n).wf = true) : InB zs := fun z hz => bounds_u8 (h z hz)

section
variable {H : Type} {enc : TypeId × Value → H} {P : Program} {W : World}
theorem bsl_of {t e : TypeId} {fuel : Nat} {v : Value} {x : DataW H × List MemPlace} (ht : P.underlying t = some (.slice e)) (he : P.underlying e = some (.int .u8)) (hc : P.cellsOf e = 1)
    (h : DataW.trod enc P W 0 (fun _ => true) true fuel t [v] = some x) : ∃ b : BSl, v = b.val ∧ b.ok W := by
  have h' : DataW.Trod enc P W 0 (fun _ => true) true t v x.1 x.2 := by
    refine ⟨fuel, ?_⟩
    have hv : v.cells.toList = [v] := by
      rcases open_ints ht he hc h with ⟨hcs, _⟩ | ⟨a, l, c, zs, hcs, _⟩
      · simp at hcs; subst hcs; rfl
      · simp at hcs; subst hcs; rfl
    rw [hv]; exact h
  obtain ⟨ao, len, cap, rfl⟩ : ∃ ao len cap, v = .slice ao len cap := by
    rcases open_ints ht he hc h with ⟨hcs, _⟩ | ⟨a, l, c, zs, hcs, _⟩
    · simp at hcs; exact ⟨_, _, _, hcs⟩
    · simp at hcs; exact ⟨_, _, _, hcs⟩
  obtain ⟨zs, rfl, h1, h2, h3, h4⟩ := ints_of ht he hc h'
  refine ⟨⟨ao, zs, cap⟩, rfl, h1, inB_of_wf h4, h2, h3, ?_⟩
  by_cases h0 : zs = []
  · exact Or.inl h0
  · exact Or.inr (fun a ha => by subst ha; exact h1.lt h0)

instance : Inhabited BSl := ⟨⟨none, [], 0⟩⟩

theorem lists_of {t e u : TypeId} {ao : Option Addr} {len cap : Nat} {d : DataW H} {p : List MemPlace} (ht : P.underlying t = some (.slice e)) (hce : P.cellsOf e = 1) (he : P.underlying e = some (.slice u)) (hu : P.underlying u = some (.int .u8)) (hc : P.cellsOf u = 1)
    (h : DataW.Trod enc P W 0 (fun _ => true) true t (.slice ao len cap) d p) :
    ∃ bs : List BSl, len = bs.length ∧ BytesList W ao bs ∧ len ≤ cap ∧ cap ≤ maxLen := by
  obtain ⟨fuel, hf⟩ := h
  rcases open_slice1 ht hce hf with ⟨hcs, _⟩ | ⟨a, l, c, m, n, V, D, Pl, hcs, _, hl, hm, hmm, _, hx⟩
  · simp [Value.cells] at hcs
    obtain ⟨rfl, rfl, rfl⟩ := hcs
    exact ⟨[], rfl, ⟨Or.inl rfl, by simp⟩, Nat.le_refl _, Nat.zero_le _⟩
  · simp [Value.cells] at hcs
    obtain ⟨rfl, rfl, rfl⟩ := hcs
    have hmc : m = cap := by simpa using hmm
    obtain ⟨X, hX⟩ := choose_lt (α := BSl) (p := fun i b => V i = b.val ∧ b.ok W) (fun i hi => bsl_of he hu hc (hx i hi).2)
    refine ⟨(List.range len).map X, by simp, ⟨?_, ?_⟩, hl, hm⟩
    · by_cases h0 : len = 0
      · exact Or.inl (by simp [h0])
      · have hc0 := (hx 0 (by omega)).1
        obtain ⟨b, off, spot⟩ := a
        have hspot : spot = none := by simpa [Addr.add] using World.cell?_spot hc0
        subst hspot
        refine Or.inr ⟨b, off, rfl, fun i hi => ?_⟩
        simp at hi
        have h1 := (hx i (by omega)).1
        rw [addr_add] at h1
        rw [h1, (hX i (by omega)).1]
        simp
    · intro x hx'
      simp only [List.mem_map, List.mem_range] at hx'
      obtain ⟨i, hi, rfl⟩ := hx'
      exact (hX i (by omega)).2
end

theorem kB_in (i : Int) : InU (kB i) := by
  unfold kB
  split
  · unfold kAt kWord; exact ⟨by omega, by omega⟩
  · exact ⟨by decide, by decide⟩
theorem hB_in (i : Int) : InU (hB i) := by
  unfold hB
  split
  · exact hAt_in _
  · exact ⟨by decide, by decide⟩

theorem outF_inB (hs : List Int) : InB (outF hs) := fun z hz => by
  unfold outF at hz
  obtain ⟨h, _, hz⟩ := List.mem_flatMap.1 hz
  exact bytesBE_inB h 4 z hz
theorem shaF_inB (zs : List Int) : InB (shaF zs) := outF_inB _
theorem below_keeps {a b c : World} {tb : Nat} (h : Below a.heap.size a b) (hk : Keeps (fun k => k = tb) b c) (hl : a.heap.size ≤ tb) : Below a.heap.size a c :=
  ((Keeps.of_below (S := fun _ => False) h).trans hk (fun k e => Or.inr (by omega))).below (Nat.le_refl _) (fun _ h => h.elim)
theorem below_step {a b c : World} (h : Below a.heap.size a b) (hk : Below b.heap.size b c) : Below a.heap.size a c := h.trans (hk.mono h.size)
theorem Keeps.step {a b c : World} {S : Nat → Prop} (h : Keeps S a b) (hk : Below b.heap.size b c) : Keeps S a c := h.trans (Keeps.of_below (S := fun _ => False) hk) (fun _ h => h.elim)

theorem cells_type {cs cs' : Array Value} {t t' : TypeId} {f f' : Nat × Nat} (h : some (Obj.cells cs t f) = some (Obj.cells cs' t' f')) : t = t' := by
  injection h with h
  injection h
/-! Blocks of different types are different blocks. -/
theorem row_ty {w : World} {T : TypeId} {sz : Nat} {v : Value} {n : Nat} {xs : List Value} (h : w.ownsRow 0 T sz v n xs) {g : Nat} (hg : v.ownBlock = some g) : ∃ cur, w.heap[g]? = some (.cells cur T (0, 0)) := by
  rcases h.2 with ⟨hv, _⟩ | ⟨g', cap', cur, hv, hb, hh, _⟩
  · rw [hv] at hg; cases hg
  · rw [hv] at hg; cases hg; exact ⟨cur, hh⟩
/-- A block of some type. -/
def TyAt (w : World) (i : Nat) (T : TypeId) : Prop := ∃ cs f, w.heap[i]? = some (.cells cs T f)
theorem TyAt.ne {w : World} {g i : Nat} {cs : Array Value} {T T' : TypeId} {f : Nat × Nat} (h : TyAt w i T') (h1 : w.heap[g]? = some (.cells cs T f)) (hne : T ≠ T') : g ≠ i := by
  intro e
  obtain ⟨cs', f', h2⟩ := h
  rw [e, h2] at h1
  exact hne (cells_type h1).symm
theorem Keeps.ty {S : Nat → Prop} {w w' : World} {g : Nat} {cs : Array Value} {T : TypeId} {f : Nat × Nat} (hk : Keeps S w w') (h1 : w.heap[g]? = some (.cells cs T f)) (hS : ∀ i, S i → ∃ T', TyAt w i T' ∧ T ≠ T') : w'.heap[g]? = w.heap[g]? :=
  hk.block g (blk_lt h1) (fun hs => by
    obtain ⟨T', h2, h3⟩ := hS g hs
    exact h2.ne h1 h3 rfl)
theorem Keeps.row {S : Nat → Prop} {w w' : World} {T : TypeId} {sz : Nat} {v : Value} {n : Nat} {xs : List Value} (hk : Keeps S w w') (h : w.ownsRow 0 T sz v n xs) (hS : ∀ i, S i → ∃ T', TyAt w i T' ∧ T ≠ T') : w'.ownsRow 0 T sz v n xs :=
  ownsRow_same h (fun g hg => by
    obtain ⟨cur, h1⟩ := row_ty h hg
    exact hk.ty h1 hS)
theorem TabOk.ty {w : World} {tb : Nat} (h : TabOk w tb) : TyAt w tb 101 := by
  rcases h with ⟨_, _, cs, h, _⟩ | ⟨cs, h, _⟩ <;> exact ⟨_, _, h⟩
theorem own_cell {w : World} {e : TypeId} {sz n cap : Nat} {ao : Option Addr} {xs : List Value} (h : w.ownsRow 0 e sz (.slice ao n cap) n xs) (hn : 0 < n) : ∃ b, ao = some ⟨b, 0, none⟩ ∧ (∀ j u, xs[j]? = some u → w.cell? ⟨b, j, none⟩ = some u) := by
  rcases h.2 with ⟨hv, h0⟩ | ⟨b, cap', cur, hv, _, hh, hnc, hcm, hcs, ht⟩
  · omega
  · simp only [Value.slice.injEq] at hv
    obtain ⟨rfl, _, _⟩ := hv
    refine ⟨b, rfl, fun j u hj => ?_⟩
    rw [blk_cell hh]
    rw [← ht] at hj
    rw [List.getElem?_take] at hj
    split at hj
    · simpa using hj
    · cases hj
theorem flat_get {α : Type} (f : α → List Value) (sz : Nat) (hf : ∀ x, (f x).length = sz) : ∀ (l : List α) (i : Nat) (hi : i < l.length) (j : Nat) (hj : j < sz), (l.flatMap f)[i * sz + j]? = (f l[i])[j]?
  | [], i, hi, _, _ => by simp at hi
  | x :: l, 0, _, j, hj => by
    rw [List.flatMap_cons, Nat.zero_mul, Nat.zero_add, List.getElem?_append_left (by rw [hf]; exact hj)]
    rfl
  | x :: l, i + 1, hi, j, hj => by
    have ih := flat_get f sz hf l i (by simpa using hi) j hj
    rw [List.flatMap_cons, List.getElem?_append_right (by rw [hf, Nat.add_mul]; omega), hf]
    rw [show (i + 1) * sz + j - sz = i * sz + j by rw [Nat.add_mul]; omega, ih]
    rfl
theorem own_shape {w : World} {e : TypeId} {sz n : Nat} {v : Value} {xs : List Value} (h : w.ownsRow 0 e sz v n xs) : ∃ ao c, v = .slice ao n c ∧ n ≤ c ∧ c ≤ maxLen := by
  rcases h.2 with ⟨hv, h0⟩ | ⟨b, cap', cur, hv, hb, hh, hnc, hcm, hcs, ht⟩
  · exact ⟨none, 0, by rw [hv, h0], by omega, by unfold maxLen; omega⟩
  · exact ⟨_, cap', hv, by assumption, by assumption⟩
theorem below_undrew {w w' : World} (h : Below w.drew.heap.size w.drew w') : Below w.heap.size w w' := ⟨h.os, h.tape, h.output, h.size, h.block⟩
theorem keeps_undrew {S : Nat → Prop} {w w' : World} (h : Keeps S w.drew w') : Keeps S w w' := ⟨h.os, h.tape, h.output, h.size, h.block⟩

theorem tab_keep {w w' : World} {b : Nat} {S : Nat → Prop} (h : TabOk w b) (hk : Keeps S w w') (hS : ¬ S b) : TabOk w' b := h.same (hk.block b h.lt hS)
theorem below_fp {a b c : World} {S : Nat → Prop} (h : Below a.heap.size a b) (hk : Keeps S b c) (hS : ∀ i, S i → a.heap.size ≤ i) : Below a.heap.size a c :=
  h.trans (hk.below h.size hS)

def BufAt (T : TypeId) (w : World) (p : Nat) (v : Value) (bs : List Int) (x : Value) : Prop :=
  w.heap[p]? = some (.cells #[v, x] T (0, 0)) ∧ w.ownsRow 0 5 1 v bs.length (bs.map (Value.int .u8)) ∧ v.ownBlock ≠ some p
def BufPost (T : TypeId) (w : World) (p : Nat) (v : Value) (bs : List Int) (x : Value) (w' : World) : Prop :=
  ∃ v', BufAt T w' p v' bs x ∧ Keeps (fpE p v) w w' ∧ (∀ g, v'.ownBlock = some g → v.ownBlock = some g ∨ w.heap.size ≤ g)
section
variable {T : TypeId} {w w' w1 w2 : World} {p : Nat} {v v1 : Value} {bs : List Int} {x : Value}
theorem BufAt.lt (h : BufAt T w p v bs x) : ∀ k, fpE p v k → k < w.heap.size := by
  rintro k (rfl | hk)
  · exact blk_lt h.1
  · exact (h.2.1.lt k hk).2
theorem BufAt.keep {S : Nat → Prop} (h : BufAt T w p v bs x) (hk : Keeps S w w') (hs : ∀ k, fpE p v k → ¬ S k) : BufAt T w' p v bs x :=
  ⟨(hk.block p (h.lt p (Or.inl rfl)) (hs p (Or.inl rfl))).trans h.1, ownsRow_same h.2.1 (fun g hg => hk.block g (h.lt g (Or.inr hg)) (hs g (Or.inr hg))), h.2.2⟩
theorem BufAt.below (h : BufAt T w p v bs x) (hb : Below w.heap.size w w') : BufAt T w' p v bs x := h.keep (Keeps.of_below (S := fun _ => False) hb) (fun _ _ f => f)
theorem BufAt.cells (h : BufAt T w p v bs x) : w.cell? ⟨p, 0, none⟩ = some v ∧ w.cell? ⟨p, 1, none⟩ = some x ∧ w.frozen? ⟨p, 0, none⟩ = false ∧ w.frozen? ⟨p, 1, none⟩ = false := by
  have c0 := blk_cell h.1 0
  have c1 := blk_cell h.1 1
  simp only [List.getElem?_toArray, List.getElem?_cons_zero, List.getElem?_cons_succ] at c0 c1
  exact ⟨c0, c1, blk_frozen h.1 0, blk_frozen h.1 1⟩
theorem BufPost.refl (h : BufAt T w p v bs x) : BufPost T w p v bs x w := ⟨v, h, Keeps.refl _ _, fun _ h => Or.inl h⟩
theorem BufPost.trans (hK : Keeps (fpE p v) w w1) (hF : ∀ g, v1.ownBlock = some g → v.ownBlock = some g ∨ w.heap.size ≤ g) (h : BufPost T w1 p v1 bs x w2) : BufPost T w p v bs x w2 := by
  obtain ⟨v2, h1, h2, h3⟩ := h
  refine ⟨v2, h1, hK.trans h2 ?_, fun g hg => ?_⟩
  · rintro i (hi | hi)
    · exact Or.inl (Or.inl hi)
    · rcases hF i hi with h | h
      · exact Or.inl (Or.inr h)
      · exact Or.inr h
  · rcases h3 g hg with h | h
    · exact hF g h
    · exact Or.inr (Nat.le_trans hK.size h)
theorem buf_set (h : BufAt T w p v bs x) (y : Value) : BufPost T w p v bs y (w.setCell ⟨p, 1, none⟩ y) := by
  obtain ⟨hp, hown, hne⟩ := h
  exact ⟨v, ⟨by simpa using blk_set hp 1 y, ownsRow_same hown (fun g hg => Below.heap_setCell _ _ _ _ (fun e => hne (by rw [hg, e]))), hne⟩, (Keeps.refl _ _).setCell (Or.inl (Or.inl rfl)) _, fun _ h => Or.inl h⟩
theorem buf_app {wa : World} {zs : List Int} {ao : Option Addr} {N cap : Nat}
    (h : BufAt T w p v bs x) (hwa : Keeps (fun _ => False) w wa)
    (hown : w1.ownsRow 0 5 1 (.slice ao N cap) N ((bs ++ zs).map (Value.int .u8))) (hgrow : wa.grownBy w1 v.ownBlock) (hat : ∀ g, (Value.slice ao N cap).ownBlock = some g → v.ownBlock = some g ∨ w.heap.size ≤ g) :
    BufPost T w p v (bs ++ zs) x (w1.setCell ⟨p, 0, none⟩ (.slice ao N cap)) := by
  have hpl := blk_lt h.1
  have hgp : ∀ g, (Value.slice ao N cap).ownBlock = some g → g ≠ p := by
    intro g hg e'
    rcases hat g hg with e | e
    · exact h.2.2 (by rw [e, e'])
    · omega
  have hpb : w1.heap[p]? = some (.cells #[v, x] T (0, 0)) := by
    rw [hgrow.block p (by have := hwa.size; omega) (fun e => h.2.2 e.symm), hwa.block p hpl (fun f => f)]; exact h.1
  have hkw : Keeps (fpE p v) w w1 := (hwa.mono (fun _ _ f => f.elim)).grown hgrow (fun k hk' => Or.inl (Or.inr hk'))
  have hN : (bs ++ zs).length = N := (owns_at hown).1
  refine ⟨_, ⟨?_, ?_, fun hx => hgp p hx rfl⟩, hkw.setCell (Or.inl (Or.inl rfl)) _, hat⟩
  · have := blk_set hpb 0 (.slice ao N cap)
    simpa using this
  · rw [hN]
    exact ownsRow_same hown (fun g' hg' => Below.heap_setCell _ _ _ _ (hgp g' hg'))
theorem BufPost.below {B : Nat} (h : BufPost T w p v bs x w') (hB : B ≤ w.heap.size) (hp : B ≤ p) (hv : ∀ g, v.ownBlock = some g → B ≤ g) : Below B w w' := by
  obtain ⟨_, _, hK, _⟩ := h
  exact hK.below hB (fun k hk => by rcases hk with rfl | hk; exact hp; exact hv k hk)
theorem buf_new (w : World) (T : TypeId) (x : Value) : BufAt T (w.alloc (.cells #[.slice none 0 0, x] T)) w.heap.size (.slice none 0 0) [] x :=
  ⟨heap_alloc_new w _, World.ownsRow_nil _ _ _ _, fun h => by cases h⟩
end

/-- A string's bytes as numbers. -/
def strNums (s : ByteArray) : List Int := s.data.toList.map fun b => (b.toNat : Int)
theorem strNums_length (s : ByteArray) : (strNums s).length = s.size := by simp [strNums]
theorem strNums_cells (s : ByteArray) : (strNums s).map (Value.int .u8) = Lib.strCells s := by simp [strNums, Lib.strCells]
theorem strNums_in (s : ByteArray) : ∀ z ∈ strNums s, 0 ≤ z ∧ z ≤ 255 := by
  intro z hz
  simp only [strNums, List.mem_map] at hz
  obtain ⟨b, _, rfl⟩ := hz
  have := b.toNat_lt
  omega

theorem run_append_str {P : Program} (w : World) (t u ty e : TypeId) (i : TypeInfo) (ht : P.underlying t = some (.slice e)) (hu : P.underlying u = some .string) (hi : P.info? e = some i) (hz : i.zero = some (.int .u8 0))
    (hsize : i.size = 1) (hby : i.bytes = 1) (v : Value) (n : Nat) (xs : List Value) (hown : w.ownsRow 0 e 1 v n xs) (s : ByteArray) (h63 : n + s.size ≤ maxLen) (hbytes : n + s.size ≤ 140737488355328) :
    ∃ ao cap w', (Builtin.append_ #[t, u] ty #[v, .string s]).run P w = .ok (.slice ao (n + s.size) cap) w' ∧ w'.ownsRow 0 e 1 (.slice ao (n + s.size) cap) (n + s.size) (xs ++ Lib.strCells s) ∧ w.grownBy w' v.ownBlock ∧
      (∀ g, (Value.slice ao (n + s.size) cap).ownBlock = some g → v.ownBlock = some g ∨ g = w.heap.size) := by
  obtain ⟨v', w', hr, h2, h3, h4⟩ := Lib.run_append_own_string (P := P) w 0 t u ty e i ht hu hi hz hsize hby v n xs hown s h63 hbytes (Nat.zero_le _)
  have hf : ∃ ao cap, v' = .slice ao (n + s.size) cap := by
    rcases h2.2 with ⟨hv, hn⟩ | ⟨g, cap, cur, hv, _⟩
    · exact ⟨none, 0, by rw [hv, hn]⟩
    · exact ⟨_, cap, hv⟩
  obtain ⟨ao, cap, rfl⟩ := hf
  refine ⟨ao, cap, w', hr, h2, h3, fun g hg => ?_⟩
  have hm1 : n + s.size ≤ 9223372036854775807 := by unfold maxLen at h63; omega
  rcases hown.2 with ⟨rfl, rfl⟩ | ⟨g0, cap0, cur, rfl, _, hg0, hnc, hcm, hcs, htake⟩
  · by_cases hm : s.size = 0
    · rw [h4.2 ⟨rfl, hm⟩] at hg; cases hg
    · have hr2 := run_append_nil_string (P := P) w t u ty e i (.int .u8 0) ht hu hi hz s (by omega) (by omega) (by rw [hby]; omega)
      rw [hr] at hr2
      injection hr2 with h5 h6
      rw [h5] at hg
      simp only [Value.ownBlock, Option.some.injEq] at hg
      exact Or.inr hg.symm
  · by_cases hroom : n + s.size ≤ cap0
    · have hr2 := Lib.run_append_room_string (P := P) w t u ty e i ht hu hi hsize g0 n cap0 cur hg0 s hroom (by omega)
      rw [hr] at hr2
      injection hr2 with h5 h6
      rw [h5] at hg
      exact Or.inl hg
    · have hxl : xs.length = n := by simpa using hown.1
      have hr2 := Lib.run_append_grow_string (P := P) w t u ty e i (.int .u8 0) ht hu hi hz ⟨g0, 0, none⟩ n cap0 xs (by rw [hsize]; simpa using hxl) (hown.cells (g := g0) rfl) s (by omega) (by omega) (by rw [hby]; exact growslice_fits (by omega) (by omega))
      rw [hr] at hr2
      injection hr2 with h5 h6
      rw [h5] at hg
      simp only [Value.ownBlock, Option.some.injEq] at hg
      exact Or.inr hg.symm

theorem wp_append_str {P : Program} {w : World} {o : Oper} {a : Act} {K : Act → World → Prop} {Q : Exit → Act → World → Prop} (sl x : Operand) (t u : TypeId)
    (ho : o.op = .call { callee := .builtin .append, args := #[sl, x], argTypes := #[t, u] })
    (e : TypeId) (i : TypeInfo) (ht : P.underlying t = some (.slice e)) (hu : P.underlying u = some .string) (hi : P.info? e = some i) (hz : i.zero = some (.int .u8 0)) (hsize : i.size = 1) (hby : i.bytes = 1)
    (v : Value) (n : Nat) (xs : List Value) (hs : a.eval sl = v) (hown : w.ownsRow 0 e 1 v n xs) (s : ByteArray) (hx : a.eval x = .string s)
    (h63 : n + s.size ≤ maxLen) (hbytes : n + s.size ≤ 140737488355328)
    (h : ∀ ao cap w', w'.ownsRow 0 e 1 (.slice ao (n + s.size) cap) (n + s.size) (xs ++ Lib.strCells s) → w.grownBy w' v.ownBlock → (∀ g, (Value.slice ao (n + s.size) cap).ownBlock = some g → v.ownBlock = some g ∨ g = w.heap.size) → K (a.put o.dst (.slice ao (n + s.size) cap)) w') : o.wp P a w K Q := by
  obtain ⟨ao, cap, w', hr, h2, h3, h4⟩ := run_append_str (P := P) w t u o.type e i ht hu hi hz hsize hby v n xs hown s h63 hbytes
  unfold Oper.wp execOp
  simp only [ho, resolve, invoke, builtin, Sem.run_bind, Sem.run_pure, Result.andThen_ok, List.map_toArray, List.map_cons, List.map_nil, hs, hx, hr]
  exact h ao cap w' h2 h3 h4
theorem wpList_append_str {P : Program} {w : World} {ops : Array Oper} {rest : List Oper} {o : Oper} {a : Act} {Q : Exit → Act → World → Prop} (hgd : o.guard = none) (sl x : Operand) (t u : TypeId)
    (ho : o.op = .call { callee := .builtin .append, args := #[sl, x], argTypes := #[t, u] })
    (e : TypeId) (i : TypeInfo) (ht : P.underlying t = some (.slice e)) (hu : P.underlying u = some .string) (hi : P.info? e = some i) (hz : i.zero = some (.int .u8 0)) (hsize : i.size = 1) (hby : i.bytes = 1)
    (v : Value) (n : Nat) (xs : List Value) (hs : a.eval sl = v) (hown : w.ownsRow 0 e 1 v n xs) (s : ByteArray) (hx : a.eval x = .string s)
    (h63 : n + s.size ≤ maxLen) (hbytes : n + s.size ≤ 140737488355328)
    (h : ∀ ao cap w', w'.ownsRow 0 e 1 (.slice ao (n + s.size) cap) (n + s.size) (xs ++ Lib.strCells s) → w.grownBy w' v.ownBlock → (∀ g, (Value.slice ao (n + s.size) cap).ownBlock = some g → v.ownBlock = some g ∨ g = w.heap.size) → wpList P ops Q rest (a.put o.dst (.slice ao (n + s.size) cap)) w') : wpList P ops Q (o :: rest) a w :=
  wpList_plain hgd fun _ hK => wp_append_str sl x t u ho e i ht hu hi hz hsize hby v n xs hs hown s hx h63 hbytes fun ao cap w' h2 h3 h4 => hK _ _ (h ao cap w' h2 h3 h4)
theorem step_append_str {P : Program} {w : World} {ops : Array Oper} {o : Oper} {a : Act} {K : Act → World → Prop} {Q : Exit → Act → World → Prop} {E : Prop} (hgd : o.guard = none) (sl x : Operand) (t u : TypeId)
    (ho : o.op = .call { callee := .builtin .append, args := #[sl, x], argTypes := #[t, u] })
    (e : TypeId) (i : TypeInfo) (ht : P.underlying t = some (.slice e)) (hu : P.underlying u = some .string) (hi : P.info? e = some i) (hz : i.zero = some (.int .u8 0)) (hsize : i.size = 1) (hby : i.bytes = 1)
    (v : Value) (n : Nat) (xs : List Value) (hs : a.eval sl = v) (hown : w.ownsRow 0 e 1 v n xs) (s : ByteArray) (hx : a.eval x = .string s)
    (h63 : n + s.size ≤ maxLen) (hbytes : n + s.size ≤ 140737488355328)
    (h : ∀ ao cap w', w'.ownsRow 0 e 1 (.slice ao (n + s.size) cap) (n + s.size) (xs ++ Lib.strCells s) → w.grownBy w' v.ownBlock → (∀ g, (Value.slice ao (n + s.size) cap).ownBlock = some g → v.ownBlock = some g ∨ g = w.heap.size) → K (a.put o.dst (.slice ao (n + s.size) cap)) w') :
    if Region.wanted o (yielded ops a.tmps) = true then Oper.wp P o a w K Q else E := by
  have hw : Region.wanted o (yielded ops a.tmps) = true := by simp [Region.wanted, hgd]
  rw [if_pos hw]
  exact wp_append_str sl x t u ho e i ht hu hi hz hsize hby v n xs hs hown s hx h63 hbytes h

/-- One step of a range over a string of ASCII signs, wherever its iterator lies. -/
theorem next_step {P : Program} (w : World) (q : Nat) (s : ByteArray) (pos : Nat) (hq : w.heap[q]? = some (.stringIter s pos)) (h : pos < s.size) (ha : (s[pos]'h).toNat < 128) :
    ∃ w', (∀ ty, (Instr.next (.pointer (some ⟨q, 0, none⟩)) true ty).run P w = .ok (.tuple #[.bool true, .int .i64 pos, .int .i32 (s[pos]'h).toNat]) w') ∧ w'.heap[q]? = some (.stringIter s (pos + 1)) ∧ Keeps (fun k => k = q) w w' := by
  have hql := blk_lt hq
  refine ⟨{ w with heap := w.heap.setIfInBounds q (.stringIter s (pos + 1)) }, fun ty => ?_, ?_, ⟨rfl, rfl, rfl, by simp, fun k hk hn => ?_⟩⟩
  · simp only [Instr.next, getObj, setObj, Sem.run_bind, Sem.run, hq, Result.andThen, h, if_true, decode_ascii s pos h ha]
    simp [goInt]
  · simp [hql]
  · simp only []
    rw [Array.getElem?_setIfInBounds_ne (Ne.symm hn)]
theorem next_stop {P : Program} (w : World) (q : Nat) (s : ByteArray) (pos : Nat) (hq : w.heap[q]? = some (.stringIter s pos)) (h : ¬ pos < s.size) (ty : TypeId) :
    (Instr.next (.pointer (some ⟨q, 0, none⟩)) true ty).run P w = .ok (.tuple #[.bool false]) w := by
  simp [Instr.next, getObj, Sem.run, hq, h]

theorem bytes_below (w : World) (e : TypeId) (s : ByteArray) : Below w.heap.size w (Lib.bytesWorld w e s) :=
  ⟨rfl, rfl, rfl, by rw [Lib.bytesWorld_size]; omega, fun k hk => Lib.bytesWorld_at_old w e s k hk⟩
theorem bytes_ints (w : World) (e : TypeId) (s : ByteArray) : IntsAt .u8 (Lib.bytesWorld w e s) (some ⟨w.heap.size, 0, none⟩) (strNums s) :=
  Or.inr ⟨w.heap.size, 0, rfl, fun i hi => by
    rw [strNums_length] at hi
    rw [Nat.zero_add, Lib.bytesWorld_cell w e s i hi]
    congr 2
    unfold strNums
    simp [List.getD, hi]⟩

end Go.Proofs.YtkaciaehlibidaaGreat
