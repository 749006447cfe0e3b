/- Parts of the proof: Sha5 Take Sha6d Sha6 ShaP. -/
import Derived.Test.YtkaciaehlibidaaGreatZ01
import Derived.Test.YtkaciaehlibidaaGreatZ02
import Derived.Laws.BitsAllLaws
import Derived.Deep.RegionHeld3
namespace Go.Proofs.YtkaciaehlibidaaGreat
open Go.RowKit
set_option linter.unusedVariables false
set_option linter.unusedSimpArgs false
def TabOk (w : World) (b : Nat) : Prop := (∃ kv hv, Tab w b 0 0 kv hv) ∨ Tab w b 1 0 kAt hAt
theorem TabOk.lt {w : World} {b : Nat} (h : TabOk w b) : b < w.heap.size := by
 rcases h with ⟨_, _, h⟩ | h <;> exact h.lt
theorem TabOk.below {w w' : World} {b : Nat} (h : TabOk w b) (hb : Below w.heap.size w w') : TabOk w' b := by
 rcases h with ⟨kv, hv, h⟩ | h
 · exact Or.inl ⟨kv, hv, h.below hb⟩
 · exact Or.inr (h.below hb)
theorem TabOk.same {w w' : World} {b : Nat} (h : TabOk w b) (he : w'.heap[b]? = w.heap[b]?) : TabOk w' b := by
 rcases h with ⟨kv, hv, h⟩ | h
 · exact Or.inl ⟨kv, hv, h.same he⟩
 · exact Or.inr (h.same he)
def TabPost (b : Nat) (w w' : World) : Prop := Tab w' b 1 0 kAt hAt ∧ Keeps (fun i => i = b) w w'
theorem do_tab (b : Nat) (w : World) (h : TabOk w b) :
 Calls Tryz.prog 134 #[.pointer (some ⟨b, 0, none⟩), .func (.func 135) #[.pointer (some ⟨b, 0, none⟩)] #[]] w fun e w' => e = .returned (.tuple #[]) ∧ TabPost b w w' := by
 rcases h with ⟨kv, hv, h⟩ | h
 · have h1 := h.setS 1
   have k1 : Keeps (fun i => i = b) w (w.setCell ⟨b, 1, none⟩ (.int .i32 1)) := (Keeps.refl (fun i => i = b) w).setCell (p := ⟨b, 1, none⟩) (Or.inl rfl) _
   have hd := do_first b 0 ⟨b, 0, none⟩ w (fun w' => Tab w' b 0 1 kAt hAt ∧ Keeps (fun i => i = b) w w') h.dn.1 h.st.1 h.dn.2 h.st.2
    ((reckon_any b 0 1 kv hv _ h1).mono (by
      rintro e w' ⟨rfl, ht, hk⟩
      exact ⟨rfl, ht, k1.trans hk (fun i hi => Or.inl hi)⟩))
    (fun w' hq => ⟨hq.1.dn, hq.1.st⟩)
   refine hd.mono ?_
   rintro e w' ⟨rfl, wq, ⟨ht, hk⟩, rfl⟩
   refine ⟨rfl, ?_, ?_⟩
   · exact ((ht.same (w' := wq.drew) rfl).setD 1).setS 0
   · exact hk.trans (((Keeps.refl (fun i => i = b) wq).drew.setCell (p := ⟨b, 0, none⟩) (Or.inl rfl) _).setCell (p := ⟨b, 1, none⟩) (Or.inl rfl) _) (fun i hi => Or.inl hi)
 · refine (do_done ⟨b, 0, none⟩ 1 (by decide) _ w h.dn.1).mono ?_
   rintro e w' ⟨rfl, rfl⟩
   exact ⟨rfl, h, Keeps.refl _ _⟩
def kB (i : Int) : Int := if 0 ≤ i ∧ i < 64 then kAt i.toNat else 0
def hB (i : Int) : Int := if 0 ≤ i ∧ i < 8 then hAt i.toNat else 0
set_option maxRecDepth 100000 in
set_option maxHeartbeats 1000000 in
theorem word_any (b : Nat) (i : Int) (w : World) (h : TabOk w b) :
 Calls Tryz.prog 137 #[.pointer (some ⟨b, 0, none⟩), .int .i64 i] w fun e w' => e = .returned (.int .u32 (kB i)) ∧ TabPost b w w' := by
 have hmf : ∀ (fn : Fn) (first cap : Array Value) (w : World), (Instr.makeFunc fn first cap).run Tryz.prog w = .ok (.func fn first cap) w := fun _ _ _ _ => rfl
 have HD := Lib.hid (do_tab b w h)
 clear h
 go_enter Tryz.func137, Tryz.ntmps137
 go_wp2_with fail
 refine HD.out.mono ?_
 rintro e w' ⟨rfl, ht, hk⟩
 have HT := Lib.hid ht
 have HK := Lib.hid hk
 clear ht hk
 by_cases h0 : i < 0
 · have HR := Lib.hid (show kB i = 0 by unfold kB; rw [if_neg (by omega)])
   go_wp2
   go_ret
   exact ⟨ret_int HR.out.symm, HT.out, HK.out⟩
 obtain ⟨k, rfl⟩ := Int.eq_ofNat_of_zero_le (Int.not_lt.1 h0)
 by_cases h1 : (64 : Int) ≤ (k : Int)
 · have HR := Lib.hid (show kB k = 0 by unfold kB; rw [if_neg (by omega)])
   go_wp2
   go_ret
   exact ⟨ret_int HR.out.symm, HT.out, HK.out⟩
 have HR := Lib.hid (show kB k = kAt k by unfold kB; rw [if_pos (by omega)]; rfl)
 obtain ⟨c, f⟩ := HT.out.kc k (by omega)
 have j1 : (k : Int) < 64 := by omega
 have j0 : (0 : Int) ≤ (k : Int) := by omega
 go_wp2
 go_ret
 exact ⟨ret_int HR.out.symm, HT.out, HK.out⟩
set_option maxRecDepth 100000 in
set_option maxHeartbeats 1000000 in
theorem start_any (b : Nat) (i : Int) (w : World) (h : TabOk w b) :
 Calls Tryz.prog 128 #[.pointer (some ⟨b, 0, none⟩), .int .i64 i] w fun e w' => e = .returned (.int .u32 (hB i)) ∧ TabPost b w w' := by
 have hmf : ∀ (fn : Fn) (first cap : Array Value) (w : World), (Instr.makeFunc fn first cap).run Tryz.prog w = .ok (.func fn first cap) w := fun _ _ _ _ => rfl
 have HD := Lib.hid (do_tab b w h)
 clear h
 go_enter Tryz.func128, Tryz.ntmps128
 go_wp2_with fail
 refine HD.out.mono ?_
 rintro e w' ⟨rfl, ht, hk⟩
 have HT := Lib.hid ht
 have HK := Lib.hid hk
 clear ht hk
 by_cases h0 : i < 0
 · have HR := Lib.hid (show hB i = 0 by unfold hB; rw [if_neg (by omega)])
   go_wp2
   go_ret
   exact ⟨ret_int HR.out.symm, HT.out, HK.out⟩
 obtain ⟨k, rfl⟩ := Int.eq_ofNat_of_zero_le (Int.not_lt.1 h0)
 by_cases h1 : (8 : Int) ≤ (k : Int)
 · have HR := Lib.hid (show hB k = 0 by unfold hB; rw [if_neg (by omega)])
   go_wp2
   go_ret
   exact ⟨ret_int HR.out.symm, HT.out, HK.out⟩
 have HR := Lib.hid (show hB k = hAt k by unfold hB; rw [if_pos (by omega)]; rfl)
 obtain ⟨c, f⟩ := HT.out.hc k (by omega)
 have j1 : (k : Int) < 8 := by omega
 have j0 : (0 : Int) ≤ (k : Int) := by omega
 go_wp2
 go_ret
 exact ⟨ret_int HR.out.symm, HT.out, HK.out⟩
theorem zt_size : Tryz.zeroCells101.size = 75 := by kernel_rfl
theorem zt_drop : Tryz.zeroCells101.toList.drop 3 = List.replicate 72 (.int .u32 0) := by kernel_rfl
theorem zt_0 : Tryz.zeroCells101[0]? = some (.int .u32 0) := by kernel_rfl
theorem zt_1 : Tryz.zeroCells101[1]? = some (.int .i32 0) := by kernel_rfl
theorem zt_at (j : Nat) (h : j < 72) : Tryz.zeroCells101[3 + j]? = some (.int .u32 0) := by
 rw [← Array.getElem?_toList, ← List.getElem?_drop, zt_drop, List.getElem?_replicate, if_pos h]
set_option maxRecDepth 100000 in
set_option maxHeartbeats 1000000 in
theorem newTable_any (w : World) : Calls Tryz.prog 11 #[] w fun e w' => e = .returned (.pointer (some ⟨w.heap.size, 0, none⟩)) ∧ TabOk w' w.heap.size ∧ Below w.heap.size w w' := by
 go_enter Tryz.func11, Tryz.ntmps11
 go_wp2
 go_ret
 refine ⟨rfl, Or.inl ⟨fun _ => 0, fun _ => 0, _, heap_alloc_new w _, zt_size, zt_0, zt_1, fun j hj => zt_at j (by omega), fun j hj => ?_⟩, (Below.refl _ _).alloc (Nat.le_refl _) _⟩
 have := zt_at (64 + j) (by omega)
 rwa [show 3 + (64 + j) = 67 + j by omega] at this
def rotr (x r : Nat) : Nat := (x * 2 ^ (32 - r) % 4294967296) ||| (x / 2 ^ r)
set_option maxHeartbeats 1000000 in
theorem rot_gen (x r : Nat) (k K : Int) (hx : x < 4294967296) (h1 : 1 ≤ r) (h2 : r ≤ 31) (hw : IntKind.u64.wrap k = K) (ha : bits .and .u64 K 31 = ((32 - r : Nat) : Int)) (w : World) :
 Calls Tryz.prog 136 #[.int .u32 x, .int .i64 k] w fun e w' => e = .returned (.int .u32 (rotr x r)) ∧ w = w' := by
 go_enter Tryz.func136, Tryz.ntmps136
 go_wp2
 go_ret
 refine ⟨ret_int ?_, rfl⟩
 have e1 : ((x : Int) * 2 ^ (32 - r) % 4294967296) = ((x * 2 ^ (32 - r) % 4294967296 : Nat) : Int) := by simp
 have e2 : ((x : Int) / 2 ^ (32 - (32 - r))) = ((x / 2 ^ r : Nat) : Int) := by
  rw [show 32 - (32 - r) = r by omega]; simp
 rw [e1, e2, u32_or_nat _ _ (by omega) (Nat.lt_of_le_of_lt (Nat.div_le_self _ _) hx)]
 rfl
theorem rot_k : ∀ r : Fin 32, 1 ≤ r.val → bits .and .u64 (IntKind.u64.wrap (-(r.val : Int))) 31 = ((32 - r.val : Nat) : Int) := by decide
theorem rot_any (x r : Nat) (k : Int) (hx : x < 4294967296) (h1 : 1 ≤ r) (h2 : r ≤ 31) (hk : k = -(r : Int)) (w : World) :
 Calls Tryz.prog 136 #[.int .u32 x, .int .i64 k] w fun e w' => e = .returned (.int .u32 (rotr x r)) ∧ w = w' :=
 rot_gen x r k _ hx h1 h2 rfl (by rw [hk]; exact rot_k ⟨r, by omega⟩ h1) w
theorem take_at {P : Program} {md : Region.Mode} {ops : Array Oper} {Q : Exit → Act → World → Prop} {S : World → Prop} {i d : Nat} {oi : Oper} {v : Value} {fuel : Nat} {listed : Array Bool} {t : Array Value} {df : _} {w : World} (hi : ops[i]? = some oi) (hd : oi.dst = some d)
 (hs : Region.noSelect ops = true) (hf : Region.free md ops listed i = true) (hr : (Region.ready md ops listed).contains i = true)
 (hQ : ∀ c a w, Q (.panic c) (a.put oi.dst v) w → Q (.panic c) a w) (hy : YieldsIf P ops S oi v ⟨t, df⟩) (hS : S w)
 (h : wpAnyH P md ops Q S fuel (listed.setIfInBounds i true) ⟨t.setIfInBounds d v, df⟩ w) : wpAnyH P md ops Q S (fuel + 1) listed ⟨t, df⟩ w :=
 wpAnyH_take hi hs hf hr hQ hy hS (by rw [hd]; exact h)
section
variable {P : Program} {md : Region.Mode} {ops : Array Oper} {Q : Exit → Act → World → Prop} {S : World → Prop} {oi : Oper} {v : Value} {fuel : Nat} {listed : Array Bool} {t : Array Value} {df : _} {w : World}
theorem tk (i d : Nat) (h : wpAnyH P md ops Q S fuel (listed.setIfInBounds i true) ⟨t.setIfInBounds d v, df⟩ w) (hi : ops[i]? = some oi := by exact rfl) (hd : oi.dst = some d := by exact rfl)
    (hs : Region.noSelect ops = true := by kernel_rfl) (hf : Region.free md ops listed i = true := by kernel_rfl) (hr : (Region.ready md ops listed).contains i = true := by kernel_rfl)
    (hQ : ∀ c a w, Q (.panic c) (a.put oi.dst v) w → Q (.panic c) a w := by exact fun _ _ _ h => h) (hy : YieldsIf P ops S oi v ⟨t, df⟩ := by exact Or.inl ⟨by rfl, by intro w' hSw; (try dsimp only at hSw); go_simp; try with_reducible rfl⟩) (hS : S w := by assumption) : wpAnyH P md ops Q S (fuel + 1) listed ⟨t, df⟩ w :=
  take_at hi hd hs hf hr hQ hy hS h
theorem tu (i d : Nat) (h : wpAnyH P md ops Q S fuel (listed.setIfInBounds i true) ⟨t.setIfInBounds d undef, df⟩ w) (hi : ops[i]? = some oi := by exact rfl) (hd : oi.dst = some d := by exact rfl)
    (hs : Region.noSelect ops = true := by kernel_rfl) (hf : Region.free md ops listed i = true := by kernel_rfl) (hr : (Region.ready md ops listed).contains i = true := by kernel_rfl)
    (hQ : ∀ c a w, Q (.panic c) (a.put oi.dst undef) w → Q (.panic c) a w := by exact fun _ _ _ h => h) (hy : YieldsIf P ops S oi undef ⟨t, df⟩ := by exact Or.inr ⟨by rfl, rfl⟩) (hS : S w := by assumption) : wpAnyH P md ops Q S (fuel + 1) listed ⟨t, df⟩ w :=
  take_at hi hd hs hf hr hQ hy hS h
end
def InU (z : Int) : Prop := 0 ≤ z ∧ z < 4294967296
theorem inU_mod (z : Int) : InU (z % 4294967296) := ⟨by omega, by omega⟩
theorem inU_bits (op : BinOp) (x y : Int) : InU (bits op .u32 x y) := by
 unfold bits
 simp only [IntKind.wrap_u32]
 exact inU_mod _
def rotI (x : Int) (r : Nat) : Int := bits .or .u32 (x * 2 ^ (32 - r) % 4294967296) (x / 2 ^ r)
theorem rotI_any (x : Int) (r : Nat) (k : Int) (hx : InU x) (h1 : 1 ≤ r) (h2 : r ≤ 31) (hk : k = -(r : Int)) (w : World) :
 Calls Tryz.prog 136 #[.int .u32 x, .int .i64 k] w fun e w' => e = .returned (.int .u32 (rotI x r)) ∧ w = w' := by
 obtain ⟨n, rfl⟩ := Int.eq_ofNat_of_zero_le hx.1
 have hn : n < 4294967296 := by have := hx.2; omega
 refine (rot_any n r k hn h1 h2 hk w).mono ?_
 rintro e w' ⟨rfl, rfl⟩
 refine ⟨ret_int ?_, rfl⟩
 unfold rotr rotI
 have e1 : ((n : Int) * 2 ^ (32 - r) % 4294967296) = ((n * 2 ^ (32 - r) % 4294967296 : Nat) : Int) := by simp
 have e2 : ((n : Int) / 2 ^ r) = ((n / 2 ^ r : Nat) : Int) := by simp
 rw [e1, e2, u32_or_nat _ _ (by omega) (Nat.lt_of_le_of_lt (Nat.div_le_self _ _) hn)]
def ArrAt (w : World) (b : Nat) (T : TypeId) (n off : Nat) (f : Nat → Int) : Prop :=
 ∃ cs, w.heap[b]? = some (.cells cs T (0, 0)) ∧ off + n ≤ cs.size ∧ ∀ j, j < n → cs[off + j]? = some (.int .u32 (f j))
section
variable {w w' : World} {b : Nat} {T : TypeId} {n off : Nat} {f f' : Nat → Int}
theorem ArrAt.lt (h : ArrAt w b T n off f) : b < w.heap.size := by obtain ⟨_, h, _⟩ := h; exact blk_lt h
theorem ArrAt.same (h : ArrAt w b T n off f) (he : w'.heap[b]? = w.heap[b]?) : ArrAt w' b T n off f := by
 obtain ⟨cs, h1, h2⟩ := h
 exact ⟨cs, he.trans h1, h2⟩
theorem ArrAt.below (h : ArrAt w b T n off f) (hb : Below w.heap.size w w') : ArrAt w' b T n off f := h.same (hb.block _ h.lt)
theorem ArrAt.cell (h : ArrAt w b T n off f) (j : Nat) (hj : j < n) : w.cell? ⟨b, off + j, none⟩ = some (.int .u32 (f j)) ∧ w.frozen? ⟨b, off + j, none⟩ = false := by
 obtain ⟨cs, h1, _, h2⟩ := h
 exact ⟨(blk_cell h1 _).trans (h2 j hj), blk_frozen h1 _⟩
theorem ArrAt.set (h : ArrAt w b T n off f) (i : Nat) (hi : i < n) (v : Int) : ArrAt (w.setCell ⟨b, off + i, none⟩ (.int .u32 v)) b T n off (fun j => if j = i then v else f j) := by
 obtain ⟨cs, h1, h2, h3⟩ := h
 refine ⟨_, blk_set h1 (off + i) _, by simpa using h2, fun j hj => ?_⟩
 by_cases e : j = i
 · subst e
   rw [Array.getElem?_setIfInBounds_self, if_pos (by omega)]; simp
 · show _ = some (Value.int .u32 (if j = i then v else f j))
   rw [Array.getElem?_setIfInBounds_ne (by omega), if_neg e]; exact h3 j hj
theorem ArrAt.setD (h : ArrAt w b T n 0 f) (i : Nat) (hi : i < n) (v : Int) (hf : ∀ j, j < n → f' j = if j = i then v else f j) : ArrAt ((w.setCell ⟨b, i, none⟩ (.int .u32 v)).drew) b T n 0 f' := by
 obtain ⟨cs, h1, h2, h3⟩ := h.set i hi v
 rw [Nat.zero_add] at h1
 exact ⟨cs, h1, h2, fun j hj => by rw [hf j hj]; exact h3 j hj⟩
theorem Keeps.setD {w0 : World} (h : Keeps (fun i => i = b) w0 w) (i : Nat) (v : Value) : Keeps (fun i => i = b) w0 ((w.setCell ⟨b, i, none⟩ v).drew) :=
 h.trans (((Keeps.refl (fun i => i = b) w).setCell (p := ⟨b, i, none⟩) (Or.inl rfl) v).drew) (fun i hi => Or.inl hi)
theorem ArrAt.to (h : ArrAt w b T n off f) (hf : ∀ j, j < n → f j = f' j) : ArrAt w b T n off f' := by
 obtain ⟨cs, h1, h2, h3⟩ := h
 exact ⟨cs, h1, h2, fun j hj => by rw [← hf j hj]; exact h3 j hj⟩
end
def ArrF (w : World) (b : Nat) (T : TypeId) (n off : Nat) (f : Nat → Int) (c0 : Array Value) : Prop :=
 ∃ cs, w.heap[b]? = some (.cells cs T (0, 0)) ∧ cs.size = c0.size ∧ off + n ≤ cs.size ∧ (∀ j, j < n → cs[off + j]? = some (.int .u32 (f j))) ∧ ∀ j, (j < off ∨ off + n ≤ j) → cs[j]? = c0[j]?
section
variable {w w' : World} {b : Nat} {T : TypeId} {n off : Nat} {f f' : Nat → Int} {c0 : Array Value}
theorem ArrF.lt (h : ArrF w b T n off f c0) : b < w.heap.size := by obtain ⟨_, h, _⟩ := h; exact blk_lt h
theorem ArrF.same (h : ArrF w b T n off f c0) (he : w'.heap[b]? = w.heap[b]?) : ArrF w' b T n off f c0 := by
 obtain ⟨cs, h1, h2⟩ := h
 exact ⟨cs, he.trans h1, h2⟩
theorem ArrF.below (h : ArrF w b T n off f c0) (hb : Below w.heap.size w w') : ArrF w' b T n off f c0 := h.same (hb.block _ h.lt)
theorem ArrF.cell (h : ArrF w b T n off f c0) (j : Nat) (hj : j < n) : w.cell? ⟨b, off + j, none⟩ = some (.int .u32 (f j)) ∧ w.frozen? ⟨b, off + j, none⟩ = false := by
 obtain ⟨cs, h1, _, _, h2, _⟩ := h
 exact ⟨(blk_cell h1 _).trans (h2 j hj), blk_frozen h1 _⟩
theorem ArrF.set (h : ArrF w b T n off f c0) (i : Nat) (hi : i < n) (v : Int) : ArrF (w.setCell ⟨b, off + i, none⟩ (.int .u32 v)) b T n off (fun j => if j = i then v else f j) c0 := by
 obtain ⟨cs, h1, h0, h2, h3, h4⟩ := h
 refine ⟨_, blk_set h1 (off + i) _, by simpa using h0, by simpa using h2, fun j hj => ?_, fun j hj => ?_⟩
 · by_cases e : j = i
   · subst e
     rw [Array.getElem?_setIfInBounds_self, if_pos (by omega)]; simp
   · show _ = some (Value.int .u32 (if j = i then v else f j))
     rw [Array.getElem?_setIfInBounds_ne (by omega), if_neg e]; exact h3 j hj
 · rw [Array.getElem?_setIfInBounds_ne (by omega)]; exact h4 j hj
theorem ArrF.to (h : ArrF w b T n off f c0) (hf : ∀ j, j < n → f j = f' j) : ArrF w b T n off f' c0 := by
 obtain ⟨cs, h1, h0, h2, h3, h4⟩ := h
 exact ⟨cs, h1, h0, h2, fun j hj => by rw [← hf j hj]; exact h3 j hj, h4⟩
theorem ArrF.of {cs : Array Value} (h : w.heap[b]? = some (.cells cs T (0, 0))) (hn : off + n ≤ cs.size) (hf : ∀ j, j < n → cs[off + j]? = some (.int .u32 (f j))) : ArrF w b T n off f cs := ⟨cs, h, rfl, hn, hf, fun _ _ => rfl⟩
end
def V8 (w : World) (b : Nat) (T : TypeId) (a0 a1 a2 a3 a4 a5 a6 a7 : Int) : Prop :=
 w.heap[b]? = some (.cells #[.int .u32 a0, .int .u32 a1, .int .u32 a2, .int .u32 a3, .int .u32 a4, .int .u32 a5, .int .u32 a6, .int .u32 a7] T (0, 0))
section
variable {w w' : World} {b : Nat} {T : TypeId} {a0 a1 a2 a3 a4 a5 a6 a7 : Int}
theorem V8.lt (h : V8 w b T a0 a1 a2 a3 a4 a5 a6 a7) : b < w.heap.size := blk_lt h
theorem V8.same (h : V8 w b T a0 a1 a2 a3 a4 a5 a6 a7) (he : w'.heap[b]? = w.heap[b]?) : V8 w' b T a0 a1 a2 a3 a4 a5 a6 a7 := he.trans h
theorem V8.c (h : V8 w b T a0 a1 a2 a3 a4 a5 a6 a7) : w.cell? ⟨b, 0, none⟩ = some (.int .u32 a0) ∧ w.cell? ⟨b, 1, none⟩ = some (.int .u32 a1) ∧ w.cell? ⟨b, 2, none⟩ = some (.int .u32 a2) ∧ w.cell? ⟨b, 3, none⟩ = some (.int .u32 a3) ∧ w.cell? ⟨b, 4, none⟩ = some (.int .u32 a4) ∧ w.cell? ⟨b, 5, none⟩ = some (.int .u32 a5) ∧ w.cell? ⟨b, 6, none⟩ = some (.int .u32 a6) ∧ w.cell? ⟨b, 7, none⟩ = some (.int .u32 a7) :=
 ⟨blk_cell h 0, blk_cell h 1, blk_cell h 2, blk_cell h 3, blk_cell h 4, blk_cell h 5, blk_cell h 6, blk_cell h 7⟩
theorem V8.f (h : V8 w b T a0 a1 a2 a3 a4 a5 a6 a7) (j : Nat) : w.frozen? ⟨b, j, none⟩ = false := blk_frozen h j
theorem V8.arr (h : V8 w b T a0 a1 a2 a3 a4 a5 a6 a7) : ArrAt w b T 8 0 (fun j => [a0, a1, a2, a3, a4, a5, a6, a7].getD j 0) := by
 refine ⟨_, h, by simp, fun j hj => ?_⟩
 match j, hj with
 | 0, _ => rfl
 | 1, _ => rfl
 | 2, _ => rfl
 | 3, _ => rfl
 | 4, _ => rfl
 | 5, _ => rfl
 | 6, _ => rfl
 | 7, _ => rfl
theorem V8.set0 (h : V8 w b T a0 a1 a2 a3 a4 a5 a6 a7) (x : Int) : V8 (w.setCell ⟨b, 0, none⟩ (.int .u32 x)) b T x a1 a2 a3 a4 a5 a6 a7 := by
 have := blk_set h 0 (.int .u32 x); simpa [V8] using this
theorem V8.set4 (h : V8 w b T a0 a1 a2 a3 a4 a5 a6 a7) (x : Int) : V8 (w.setCell ⟨b, 4, none⟩ (.int .u32 x)) b T a0 a1 a2 a3 x a5 a6 a7 := by
 have := blk_set h 4 (.int .u32 x); simpa [V8] using this
theorem V8.shift (h : V8 w b T a0 a1 a2 a3 a4 a5 a6 a7) (ty : TypeId) : ∃ w', (Builtin.copy_ #[190, 190] ty #[.slice (some ⟨b, 1, none⟩) 7 7, .slice (some ⟨b, 0, none⟩) 7 8]).run Tryz.prog w = .ok (.int .i64 7) w' ∧ V8 w' b T a0 a0 a1 a2 a3 a4 a5 a6 ∧ Keeps (fun i => i = b) w w' := by
 have hr := run_copy_row (P := Tryz.prog) w 190 190 ty 89 b 1 7 7 ⟨b, 0, none⟩ 7 8 _ T [.int .u32 a0, .int .u32 a1, .int .u32 a2, .int .u32 a3, .int .u32 a4, .int .u32 a5, .int .u32 a6] (by kernel_rfl) (by kernel_rfl) h rfl
  (fun j v hj => by
    have hc := h.c
    match j, hj with
    | 0, hj => simp at hj; subst hj; exact hc.1
    | 1, hj => simp at hj; subst hj; exact hc.2.1
    | 2, hj => simp at hj; subst hj; exact hc.2.2.1
    | 3, hj => simp at hj; subst hj; exact hc.2.2.2.1
    | 4, hj => simp at hj; subst hj; exact hc.2.2.2.2.1
    | 5, hj => simp at hj; subst hj; exact hc.2.2.2.2.2.1
    | 6, hj => simp at hj; subst hj; exact hc.2.2.2.2.2.2.1
    | j + 7, hj => simp at hj)
  (by simp) (by intro v hv; simp at hv; rcases hv with rfl | rfl | rfl | rfl | rfl | rfl | rfl <;> rfl)
 refine ⟨_, hr, ?_, ?_⟩
 · exact setRow_heap w b _ _ T _ h
 · exact ⟨rfl, rfl, rfl, by simp [World.setRow], fun k hk hn => setRow_other w b k _ hn⟩
end
def be4 (l : List Int) : Int := l.foldl (fun acc c => bits .or .u32 (acc * 256 % 4294967296) c) 0
def sg0 (x : Int) : Int := bits .xor .u32 (bits .xor .u32 (rotI x 7) (rotI x 18)) (x / 8)
def sg1 (x : Int) : Int := bits .xor .u32 (bits .xor .u32 (rotI x 17) (rotI x 19)) (x / 1024)
def m16 (bs : List Int) (i : Nat) : Int := be4 ((bs.drop (4 * i)).take 4)
def wSched (l : List Int) : Int := (((l.getD (l.length - 16) 0 + sg0 (l.getD (l.length - 15) 0)) % 4294967296 + l.getD (l.length - 7) 0) % 4294967296 + sg1 (l.getD (l.length - 2) 0)) % 4294967296
def wNext (bs l : List Int) : Int := if l.length < 16 then m16 bs l.length else wSched l
def wPre (bs : List Int) : Nat → List Int
 | 0 => []
 | k + 1 => wPre bs k ++ [wNext bs (wPre bs k)]
theorem wPre_len (bs : List Int) (k : Nat) : (wPre bs k).length = k := by
 induction k with
 | zero => rfl
 | succ k ih => simp [wPre, ih]
theorem wPre_next (bs : List Int) (k j : Nat) : (wPre bs (k + 1)).getD j 0 = if j = k then wNext bs (wPre bs k) else (wPre bs k).getD j 0 := by
 have hl := wPre_len bs k
 have e0 : wPre bs (k + 1) = wPre bs k ++ [wNext bs (wPre bs k)] := rfl
 rw [e0]
 by_cases h : j < k
 · rw [if_neg (by omega)]; simp [List.getD, List.getElem?_append_left (by omega : j < (wPre bs k).length)]
 · by_cases e : j = k
   · subst e
     rw [if_pos rfl]
     simp only [List.getD]
     rw [List.getElem?_append_right (by omega), hl]; simp
   · rw [if_neg e]
     simp only [List.getD]
     rw [List.getElem?_eq_none (by simp; omega), List.getElem?_eq_none (by omega)]
def cpl (x : Int) : Int := bits .xor .u32 4294967295 x
def bg0 (a : Int) : Int := bits .xor .u32 (bits .xor .u32 (rotI a 2) (rotI a 13)) (rotI a 22)
def bg1 (e : Int) : Int := bits .xor .u32 (bits .xor .u32 (rotI e 6) (rotI e 11)) (rotI e 25)
def chF (e f g : Int) : Int := bits .xor .u32 (bits .and .u32 e f) (bits .and .u32 (cpl e) g)
def majF (a b c : Int) : Int := bits .xor .u32 (bits .xor .u32 (bits .and .u32 a b) (bits .and .u32 a c)) (bits .and .u32 b c)
def oneF (k wv e f g h : Int) : Int := ((((h + bg1 e) % 4294967296 + chF e f g) % 4294967296 + k) % 4294967296 + wv) % 4294967296
def twoF (a b c : Int) : Int := (bg0 a + majF a b c) % 4294967296
def vStep (k wv : Int) : List Int → List Int
 | [a, b, c, d, e, f, g, h] => [(oneF k wv e f g h + twoF a b c) % 4294967296, a, b, c, (d + oneF k wv e f g h) % 4294967296, e, f, g]
 | l => l
def vRun (ws hs : List Int) : Nat → List Int
 | 0 => hs
 | i + 1 => vStep (kAt i) (ws.getD i 0) (vRun ws hs i)
def mixF (hs bs : List Int) : List Int := List.zipWith (fun x y => (x + y) % 4294967296) hs (vRun (wPre bs 64) hs 64)
theorem vStep_len (k wv : Int) (l : List Int) (h : l.length = 8) : (vStep k wv l).length = 8 := by
 match l, h with
 | [a, b, c, d, e, f, g, i], _ => rfl
theorem vRun_len (ws hs : List Int) (h : hs.length = 8) : ∀ k, (vRun ws hs k).length = 8
 | 0 => h
 | k + 1 => vStep_len _ _ _ (vRun_len ws hs h k)
theorem vStep_in (k wv : Int) (l : List Int) (h : ∀ j, InU (l.getD j 0)) : ∀ j, InU ((vStep k wv l).getD j 0) := by
 unfold vStep
 split
 · intro j
   have g := h
   match j with
   | 0 => exact inU_mod _
   | 1 => exact g 0
   | 2 => exact g 1
   | 3 => exact g 2
   | 4 => exact inU_mod _
   | 5 => exact g 4
   | 6 => exact g 5
   | 7 => exact g 6
   | j + 8 => exact ⟨by simp, by simp⟩
 · exact h
theorem vRun_in (ws hs : List Int) (h : ∀ j, InU (hs.getD j 0)) : ∀ k j, InU ((vRun ws hs k).getD j 0)
 | 0 => h
 | k + 1 => vStep_in _ _ _ (vRun_in ws hs h k)
theorem be4_snoc (l : List Int) (c : Int) : be4 (l ++ [c]) = bits .or .u32 (be4 l * 256 % 4294967296) c := by
 unfold be4; rw [List.foldl_append]; rfl
theorem be4_in (l : List Int) : InU (be4 l) := by
 rcases List.eq_nil_or_concat l with h | ⟨l', c, h⟩
 · subst h; exact ⟨by decide, by decide⟩
 · rw [h, List.concat_eq_append, be4_snoc]; exact inU_bits _ _ _
theorem wPre_in (bs : List Int) (k j : Nat) : InU ((wPre bs k).getD j 0) := by
 induction k with
 | zero => exact ⟨by simp [wPre], by simp [wPre]⟩
 | succ k ih =>
   rw [wPre_next]
   split
   · unfold wNext
     split
     · exact be4_in _
     · exact inU_mod _
   · exact ih
def za : Array Value := #[Value.int .u32 0, Value.int .u32 0, Value.int .u32 0, Value.int .u32 0, Value.int .u32 0, Value.int .u32 0, Value.int .u32 0, Value.int .u32 0, Value.int .u32 0, Value.int .u32 0, Value.int .u32 0, Value.int .u32 0, Value.int .u32 0, Value.int .u32 0, Value.int .u32 0, Value.int .u32 0, Value.int .u32 0, Value.int .u32 0, Value.int .u32 0, Value.int .u32 0, Value.int .u32 0, Value.int .u32 0, Value.int .u32 0, Value.int .u32 0, Value.int .u32 0, Value.int .u32 0, Value.int .u32 0, Value.int .u32 0, Value.int .u32 0, Value.int .u32 0, Value.int .u32 0, Value.int .u32 0, Value.int .u32 0, Value.int .u32 0, Value.int .u32 0, Value.int .u32 0, Value.int .u32 0, Value.int .u32 0, Value.int .u32 0, Value.int .u32 0, Value.int .u32 0, Value.int .u32 0, Value.int .u32 0, Value.int .u32 0, Value.int .u32 0, Value.int .u32 0, Value.int .u32 0, Value.int .u32 0, Value.int .u32 0, Value.int .u32 0, Value.int .u32 0, Value.int .u32 0, Value.int .u32 0, Value.int .u32 0, Value.int .u32 0, Value.int .u32 0, Value.int .u32 0, Value.int .u32 0, Value.int .u32 0, Value.int .u32 0, Value.int .u32 0, Value.int .u32 0, Value.int .u32 0, Value.int .u32 0]
theorem za_drop : za.toList = List.replicate 64 (.int .u32 0) := by kernel_rfl
theorem za_at (j : Nat) (h : j < 64) : za[0 + j]? = some (.int .u32 0) := by
 rw [← Array.getElem?_toList, za_drop, List.getElem?_replicate, if_pos (by omega)]
theorem za_size : za.size = 64 := by kernel_rfl
set_option maxRecDepth 100000 in
set_option maxHeartbeats 4000000 in
theorem mix_any (tb : Nat) (hb ho : Nat) (TH : TypeId) (bo : Option Addr) (bs : List Int) (cap : Nat) (hs : List Int) (w : World) (ht : TabOk w tb) (h8 : hs.length = 8) (hne : hb ≠ tb) (c0 : Array Value) (hh : ArrF w hb TH 8 ho (fun j => hs.getD j 0) c0) (hhi : ∀ j, InU (hs.getD j 0)) (hn : bs.length = 64) (hbs : IntsAt .u8 w bo bs) (hB : ∀ z ∈ bs, 0 ≤ z ∧ z ≤ 255) (hcap : 64 ≤ cap) :
 Calls Tryz.prog 129 #[.pointer (some ⟨tb, 0, none⟩), .pointer (some ⟨hb, ho, none⟩), .slice bo 64 cap] w fun e w' => e = .returned (.tuple #[]) ∧ TabOk w' tb ∧ ArrF w' hb TH 8 ho (fun j => (mixF hs bs).getD j 0) c0 ∧ Keeps (fun i => i = tb ∨ i = hb) w w' := by
 have HTAB := Lib.hid ht
 have HHI := Lib.hid hhi
 have H8 := Lib.hid h8
 have HNE := Lib.hid hne
 have HH := Lib.hid hh
 have HBS := Lib.hid hbs
 have HN := Lib.hid hn
 have HBY := Lib.hid hB
 obtain ⟨b, off, rfl, hc⟩ : ∃ b off, bo = some ⟨b, off, none⟩ ∧ ∀ i, i < 64 → w.cell? ⟨b, off + i, none⟩ = some (.int .u8 (bs.getD i 0)) := by
  rcases hbs with h | ⟨b, off, h1, h2⟩
  · rw [h] at hn; simp at hn
  · exact ⟨b, off, h1, fun i hi => h2 i (by omega)⟩
 obtain ⟨w1, hw1⟩ : ∃ w1, w1 = w.alloc (.cells za 98) := ⟨_, rfl⟩
 have HB1 : Hid (Below w.heap.size w w1) := Lib.hid (by rw [hw1]; exact (Below.refl _ _).alloc (Nat.le_refl _) _)
 have HA1 : Hid (ArrAt w1 w.heap.size 98 64 0 (fun j => (wPre bs 0).getD j 0)) := Lib.hid (by
  rw [hw1]
  exact ⟨_, heap_alloc_new w _, by rw [za_size]; omega, fun j hj => by rw [za_at j hj]; simp [wPre]⟩)
 have HC := Lib.hid (fun wr (hk : Keeps (fun i => i = w.heap.size) w1 wr) i (hi : i < 64) => show wr.cell? ⟨b, off + i, none⟩ = some (.int .u8 (bs.getD i 0)) by
  have h1 := hc i hi
  have h2 := World.block_lt_of_cell? w _ h1
  have h2 : b < w.heap.size := h2
  have e1 : w1.heap[b]? = w.heap[b]? := HB1.out.block b h2
  have e2 : wr.heap[b]? = w1.heap[b]? := hk.block b (Nat.lt_of_lt_of_le h2 HB1.out.size) (by omega)
  unfold World.cell? at h1 ⊢
  rw [e2, e1]; exact h1)
 unfold za at hw1
 have HW1 := Lib.hid hw1
 obtain ⟨MXF, hMXF⟩ : ∃ m : Nat → Int, m = fun j => (mixF hs bs).getD j 0 := ⟨_, rfl⟩
 have HMF := Lib.hid hMXF
 rw [← hMXF]
 clear ht hh hbs hn hB hc hw1 hhi h8 hne hMXF
 go_enter Tryz.func129, Tryz.ntmps129
 go_upto_block 0 with fail
 rw [← HW1.out]
 go_cut [] (fun wx => ArrAt wx w.heap.size 98 64 0 (fun j => (wPre bs 64).getD j 0) ∧ Keeps (fun i => i = w.heap.size) w1 wx)
 case first =>
  go_wp2_with fail
  go_loopw [20] (fun i wr => ∃ k : Nat, k ≤ 64 ∧ i = .int .i64 k ∧ ArrAt wr w.heap.size 98 64 0 (fun j => (wPre bs k).getD j 0) ∧ Keeps (fun i => i = w.heap.size) w1 wr) (fun i _ => 64 - (intOf i).toNat)
  case atStart => exact ⟨0, Nat.zero_le _, rfl, HA1.out, Keeps.refl _ _⟩
  case round =>
   obtain ⟨k, hk, rfl, ha, hkp⟩ := hrel
   have HA := Lib.hid ha
   have HKP := Lib.hid hkp
   clear ha hkp
   by_cases hlt : k < 64
   · have j0 : (0 : Int) ≤ (k : Int) := by omega
     have j1 : (k : Int) < 64 := by omega
     by_cases h16 : k < 16
     · have j2 : (k : Int) < 16 := by omega
       have HNX : Hid (wNext bs (wPre bs k) = be4 ((bs.drop (4 * k)).take 4)) := Lib.hid (by
        unfold wNext m16
        rw [wPre_len, if_pos h16])
       have HWN := Lib.hid (wPre_next bs k)
       go_wp2_with fail
       go_loopw [33] (fun j wi => ∃ q : Nat, q ≤ 4 ∧ j = .int .i64 q ∧ ArrAt wi w.heap.size 98 64 0 (fun x => if x = k then be4 ((bs.drop (4 * k)).take q) else (wPre bs k).getD x 0) ∧ Keeps (fun i => i = w.heap.size) w1 wi) (fun j _ => 4 - (intOf j).toNat)
       case atStart =>
        refine ⟨0, Nat.zero_le _, rfl, HA.out.to (fun x hx => ?_), HKP.out⟩
        by_cases e : x = k
        · subst e
          rw [if_pos rfl]
          have hl := wPre_len bs x
          simp [List.getD, List.getElem?_eq_none (by omega : (wPre bs x).length ≤ x), be4]
        · rw [if_neg e]
       case round =>
        obtain ⟨q, hq, rfl, hai, hki⟩ := hrel
        have HAI := Lib.hid hai
        have HKI := Lib.hid hki
        clear hai hki
        by_cases hq4 : q < 4
        · have i0 : (0 : Int) ≤ (q : Int) := by omega
          have i1 : (q : Int) < 4 := by omega
          have cb := HC.out wr HKI.out (4 * k + q) (by omega)
          rw [← Nat.add_assoc] at cb
          obtain ⟨cw, fw⟩ := HAI.out.cell k hlt
          rw [if_pos rfl] at cw
          simp only [Nat.zero_add] at cw fw
          have HZ := Lib.hid (HBY.out (bs.getD (4 * k + q) 0) (by
           have hl : 4 * k + q < bs.length := by rw [HN.out]; omega
           simp only [List.getD, List.getElem?_eq_getElem hl, Option.getD_some]
           exact List.getElem_mem hl))
          have HSN : Hid ((bs.drop (4 * k)).take (q + 1) = (bs.drop (4 * k)).take q ++ [bs.getD (4 * k + q) 0]) := Lib.hid (by
           have hl : 4 * k + q < bs.length := by rw [HN.out]; omega
           have hl2 : q < (bs.drop (4 * k)).length := by simp; omega
           rw [List.take_succ_eq_append_getElem hl2]
           simp [List.getD, List.getElem?_eq_getElem hl])
          have hz := HZ.out
          generalize bs.getD (4 * k + q) 0 = z at *
          have HT2 := Lib.hid ((HAI.out.set k hlt (bits .or .u32 (be4 ((bs.drop (4 * k)).take q) * 256 % 4294967296) z)).to (f' := fun x => if x = k then be4 ((bs.drop (4 * k)).take (q + 1)) else (wPre bs k).getD x 0) (fun x hx => by
           by_cases e : x = k
           · subst e; simp only [if_true]; rw [HSN.out, be4_snoc]
           · simp only [if_neg e]))
          have HK2 := Lib.hid (HKI.out.trans ((Keeps.refl (fun i => i = w.heap.size) wr).setCell (p := ⟨w.heap.size, 0 + k, none⟩) (Or.inl rfl) (.int .u32 (bits .or .u32 (be4 ((bs.drop (4 * k)).take q) * 256 % 4294967296) z))) (fun i hi => Or.inl hi))
          simp only [Nat.zero_add] at HT2 HK2
          go_wp2_with fail
          go_roundw
          case rel => exact ⟨q + 1, by omega, by go_num, HT2.out, HK2.out⟩
          case measure => simp [intOf]; omega
        · obtain rfl : q = 4 := by omega
          have HT2 := Lib.hid (HAI.out.to (f' := fun j => (wPre bs (k + 1)).getD j 0) (fun x hx => by
           rw [HWN.out x, HNX.out]))
          go_wp2
          go_roundw
          case rel => exact ⟨k + 1, by omega, by go_num, HT2.out, HKI.out⟩
          case measure => simp [intOf]; omega
     · have j2 : ¬ (k : Int) < 16 := by omega
       obtain ⟨q, rfl⟩ : ∃ q, k = q + 16 := ⟨k - 16, by omega⟩
       obtain ⟨c1, _⟩ := HA.out.cell (q + 1) (by omega)
       obtain ⟨c14, _⟩ := HA.out.cell (q + 14) (by omega)
       obtain ⟨c0, _⟩ := HA.out.cell q (by omega)
       obtain ⟨c9, _⟩ := HA.out.cell (q + 9) (by omega)
       obtain ⟨cw, fw⟩ := HA.out.cell (q + 16) hlt
       simp only [Nat.zero_add] at c1 c14 c0 c9 cw fw
       have v1 := wPre_in bs (q + 16) (q + 1)
       have v14 := wPre_in bs (q + 16) (q + 14)
       have HNX : Hid (wNext bs (wPre bs (q + 16)) = ((((wPre bs (q + 16)).getD q 0 + sg0 ((wPre bs (q + 16)).getD (q + 1) 0)) % 4294967296 + (wPre bs (q + 16)).getD (q + 9) 0) % 4294967296 + sg1 ((wPre bs (q + 16)).getD (q + 14) 0)) % 4294967296) := Lib.hid (by
        unfold wNext wSched
        rw [wPre_len, if_neg (by omega), show q + 16 - 16 = q by omega, show q + 16 - 15 = q + 1 by omega, show q + 16 - 7 = q + 9 by omega, show q + 16 - 2 = q + 14 by omega])
       have HWN := Lib.hid (wPre_next bs (q + 16))
       generalize (wPre bs (q + 16)).getD (q + 1) 0 = x1 at *
       generalize (wPre bs (q + 16)).getD (q + 14) 0 = x14 at *
       generalize (wPre bs (q + 16)).getD q 0 = x0 at *
       generalize (wPre bs (q + 16)).getD (q + 9) 0 = x9 at *
       have HV1 := Lib.hid v1
       have HV14 := Lib.hid v14
       clear v1 v14 j0 j1 j2
       have j0 : (0 : Int) ≤ (q : Int) := by omega
       have j1 : (q : Int) < 48 := by omega
       clear h16
       have k1 : (q : Int) + 16 < 64 := by omega
       have k2 : ¬ (q : Int) + 16 < 16 := by omega
       go_upto_region 10 with fail
       go_quiet (fail)
       go_wp2_with fail
       have HA5 := Lib.hid (HA.out.same (w' := wr.drewN nq) rfl)
       have HK5 := Lib.hid (HKP.out.trans ((Keeps.refl (fun i => i = w.heap.size) wr).drewN nq) (fun i hi => Or.inl hi))
       have d0 : (wr.drewN nq).cell? ⟨w.heap.size, q, none⟩ = some (.int .u32 x0) := c0
       have d9 : (wr.drewN nq).cell? ⟨w.heap.size, q + 9, none⟩ = some (.int .u32 x9) := c9
       have dw : (wr.drewN nq).cell? ⟨w.heap.size, q + 16, none⟩ = some (.int .u32 ((wPre bs (q + 16)).getD (q + 16) 0)) := cw
       have dwf : (wr.drewN nq).frozen? ⟨w.heap.size, q + 16, none⟩ = false := fw
       generalize wr.drewN nq = w5 at *
       clear c0 c1 c9 c14 cw fw HA HKP
       refine (rotI_any x1 7 (-7) HV1.out (by omega) (by omega) (by decide) w5).mono ?_
       rintro e w6 ⟨rfl, rfl⟩
       go_wp2_with fail
       refine (rotI_any x1 18 (-18) HV1.out (by omega) (by omega) (by decide) w5).mono ?_
       rintro e w6 ⟨rfl, rfl⟩
       go_wp2_with fail
       refine (rotI_any x14 17 (-17) HV14.out (by omega) (by omega) (by decide) w5).mono ?_
       rintro e w6 ⟨rfl, rfl⟩
       go_wp2_with fail
       refine (rotI_any x14 19 (-19) HV14.out (by omega) (by omega) (by decide) w5).mono ?_
       rintro e w6 ⟨rfl, rfl⟩
       go_wp2_with fail
       have j2 : (q : Int) < 64 := by omega
       have hwA := (HA5.out.lt)
       have hwq : IntKind.i64.wrap (q : Int) = q := by rw [IntKind.wrap_i64]; omega
       have hwq9 : IntKind.i64.wrap ((q : Int) + 9) = (q : Int) + 9 := by rw [IntKind.wrap_i64]; omega
       have hwq7 : IntKind.i64.wrap ((q : Int) + 16 - 7) = (q : Int) + 9 := by rw [IntKind.wrap_i64]; omega
       have hwq16 : IntKind.i64.wrap ((q : Int) + 16) = (q : Int) + 16 := by rw [IntKind.wrap_i64]; omega
       have i9 : (0 : Int) ≤ (q : Int) + 9 := by omega
       have i9b : (q : Int) + 9 < 64 := by omega
       have i16 : (0 : Int) ≤ (q : Int) + 16 := by omega
       have i16b : (q : Int) + 16 < 64 := by omega
       have t0 : (q : Int).toNat = q := by omega
       have t9 : ((q : Int) + 9).toNat = q + 9 := by omega
       have t16 : ((q : Int) + 16).toNat = q + 16 := by omega
       refine wp_region_held_drew (S := fun w' => w'.cell? ⟨w.heap.size, q, none⟩ = some (.int .u32 x0) ∧ w'.cell? ⟨w.heap.size, q + 9, none⟩ = some (.int .u32 x9)) (by kernel_rfl) ?_ (fun hHeld => ?_)
       · exact ⟨d0, d9⟩
       refine tk 0 71 ?_
       simp only [lz]
       refine tk 1 72 ?_
       simp only [lz]
       refine tk 2 73 ?_
       simp only [lz]
       refine tk 3 74 ?_
       simp only [lz]
       refine tk 4 75 ?_
       simp only [lz]
       refine tk 5 76 ?_
       simp only [lz]
       refine tk 6 77 ?_
       simp only [lz]
       refine tk 7 78 ?_
       simp only [lz]
       refine tk 8 79 ?_
       simp only [lz]
       refine tk 9 80 ?_
       simp only [lz]
       refine tk 10 81 ?_
       simp only [lz]
       refine tk 11 82 ?_
       simp only [lz]
       refine tk 12 83 ?_
       simp only [lz]
       refine tk 13 84 ?_
       simp only [lz]
       refine tk 14 85 ?_
       simp only [lz]
       refine wpAnyH_ready (rs := [15]) (by kernel_rfl) (by simp) ?_
       refine AllReadyH.cons rfl (fun K hK => ?_) AllReadyH.nil
       go_simp
       go_wp2_with fail
       refine hK.out _ _ ?_ (fun hHeld => ?_)
       · exact ⟨(World.cell?_setCell_other _ ⟨w.heap.size, q + 16, none⟩ ⟨w.heap.size, q, none⟩ _ (by simp)).trans d0, (World.cell?_setCell_other _ ⟨w.heap.size, q + 16, none⟩ ⟨w.heap.size, q + 9, none⟩ _ (by simp)).trans d9⟩
       clear hK K
       try simp only [Act.put, lg]
       try simp only [lz]
       refine wpAnyH_done (by kernel_rfl) ?_ _
       go_wp2_with fail
       go_roundw
       case rel =>
        refine ⟨q + 16 + 1, by omega, by go_num, HA5.out.setD (q + 16) hlt _ (fun j hj => ?_), Keeps.setD HK5.out (q + 16) _⟩
        rw [HWN.out]
        split
        · rw [HNX.out]; unfold sg0 sg1; simp only [IntKind.wrap_u32]
        · rfl
       case measure => simp [intOf]; omega
   · obtain rfl : k = 64 := by omega
     go_wp2_with fail
     go_meet
     case rel => exact ⟨HA.out, HKP.out⟩
 case rest =>
  obtain ⟨ha, hkp⟩ := hcut
  obtain ⟨h0, h1, h2, h3, h4, h5, h6, h7, rfl⟩ : ∃ h0 h1 h2 h3 h4 h5 h6 h7, hs = [h0, h1, h2, h3, h4, h5, h6, h7] := by
   have := H8.out
   match hs, this with
   | [h0, h1, h2, h3, h4, h5, h6, h7], _ => exact ⟨h0, h1, h2, h3, h4, h5, h6, h7, rfl⟩
  have eb : wc.heap[hb]? = w.heap[hb]? := (hkp.block hb (Nat.lt_of_lt_of_le HH.out.lt HB1.out.size) (by have := HH.out.lt; omega)).trans (HB1.out.block hb HH.out.lt)
  have et : wc.heap[tb]? = w.heap[tb]? := (hkp.block tb (Nat.lt_of_lt_of_le HTAB.out.lt HB1.out.size) (by have := HTAB.out.lt; omega)).trans (HB1.out.block tb HTAB.out.lt)
  have HH2 := Lib.hid (HH.out.same eb)
  have HT2 := Lib.hid (HTAB.out.same et)
  have g0 := (HH2.out.cell 0 (by omega)).1
  have g1 := (HH2.out.cell 1 (by omega)).1
  have g2 := (HH2.out.cell 2 (by omega)).1
  have g3 := (HH2.out.cell 3 (by omega)).1
  have g4 := (HH2.out.cell 4 (by omega)).1
  have g5 := (HH2.out.cell 5 (by omega)).1
  have g6 := (HH2.out.cell 6 (by omega)).1
  have g7 := (HH2.out.cell 7 (by omega)).1
  simp only [List.getD_cons_zero, List.getD_cons_succ, Nat.add_zero] at g0 g1 g2 g3 g4 g5 g6 g7
  obtain ⟨wv, hwv⟩ : ∃ wv, wv = wc.alloc (.cells #[.int .u32 h0, .int .u32 h1, .int .u32 h2, .int .u32 h3, .int .u32 h4, .int .u32 h5, .int .u32 h6, .int .u32 h7] 99) := ⟨_, rfl⟩
  have HBV : Hid (Below wc.heap.size wc wv) := Lib.hid (by rw [hwv]; exact (Below.refl _ _).alloc (Nat.le_refl _) _)
  have HV : Hid (V8 wv wc.heap.size 99 h0 h1 h2 h3 h4 h5 h6 h7) := Lib.hid (by rw [hwv]; exact heap_alloc_new _ _)
  have HAV := Lib.hid (ha.below HBV.out)
  have HTV := Lib.hid (HT2.out.below HBV.out)
  have HHV := Lib.hid (HH2.out.below HBV.out)
  have HKV : Hid (Keeps (fun i => i = w.heap.size) w wv) := Lib.hid (((Keeps.of_below HB1.out).trans hkp (fun i hi => Or.inl hi)).trans (Keeps.of_below (S := fun _ => False) HBV.out) (fun _ h => h.elim))
  have HLT := Lib.hid (show w.heap.size < wc.heap.size from ha.lt)
  have HLV := Lib.hid (show wc.heap.size < wv.heap.size from blk_lt HV.out)
  have HWV := Lib.hid hwv
  have HIN := Lib.hid (fun k j => vRun_in (wPre bs 64) [h0, h1, h2, h3, h4, h5, h6, h7] HHI.out k j)
  have HLL := Lib.hid (fun k => vRun_len (wPre bs 64) [h0, h1, h2, h3, h4, h5, h6, h7] rfl k)
  clear hkp eb et hwv ha
  go_wp2_with fail
  rw [← HWV.out]
  generalize hV : wc.heap.size = V at *
  generalize hW : w.heap.size = W at *
  have HVe := Lib.hid hV
  have HWe := Lib.hid hW
  have HNE2 := Lib.hid (show tb ≠ V ∧ tb ≠ W ∧ W ≠ V by have h1 := HTAB.out.lt; have := HLT.out; exact ⟨by omega, by omega, by omega⟩)
  clear hV hW
  go_loopw [90] (fun i wr => ∃ k : Nat, k ≤ 64 ∧ i = .int .i64 k ∧ ∃ a0 a1 a2 a3 a4 a5 a6 a7, vRun (wPre bs 64) [h0, h1, h2, h3, h4, h5, h6, h7] k = [a0, a1, a2, a3, a4, a5, a6, a7] ∧ V8 wr V 99 a0 a1 a2 a3 a4 a5 a6 a7 ∧ TabOk wr tb ∧ Keeps (fun i => i = tb ∨ i = V) wv wr) (fun i _ => 64 - (intOf i).toNat)
  case atStart => exact ⟨0, Nat.zero_le _, rfl, h0, h1, h2, h3, h4, h5, h6, h7, rfl, HV.out, HTV.out, Keeps.refl _ _⟩
  case round =>
   obtain ⟨k, hk, rfl, a0, a1, a2, a3, a4, a5, a6, a7, hr, hv, ht, hkp⟩ := hrel
   have HV2 := Lib.hid hv
   have HT3 := Lib.hid ht
   have HK3 := Lib.hid hkp
   have HA3 := Lib.hid (HAV.out.same (hkp.block W (Nat.lt_trans HLT.out HLV.out) (by have := HNE2.out; omega)))
   have HR := Lib.hid hr
   clear hr hv ht hkp
   by_cases hlt : k < 64
   · have j0 : (0 : Int) ≤ (k : Int) := by omega
     have j1 : (k : Int) < 64 := by omega
     have HRN : Hid (vRun (wPre bs 64) [h0, h1, h2, h3, h4, h5, h6, h7] (k + 1) = [(oneF (kAt k) ((wPre bs 64).getD k 0) a4 a5 a6 a7 + twoF a0 a1 a2) % 4294967296, a0, a1, a2, (a3 + oneF (kAt k) ((wPre bs 64).getD k 0) a4 a5 a6 a7) % 4294967296, a4, a5, a6]) := Lib.hid (by
      show vStep (kAt k) ((wPre bs 64).getD k 0) (vRun (wPre bs 64) [h0, h1, h2, h3, h4, h5, h6, h7] k) = _
      rw [HR.out]; rfl)
     have HI0 : Hid (InU a0) := Lib.hid (by have := HIN.out k 0; rw [HR.out] at this; exact this)
     have HI4 : Hid (InU a4) := Lib.hid (by have := HIN.out k 4; rw [HR.out] at this; exact this)
     obtain ⟨cw, _⟩ := HA3.out.cell k hlt
     simp only [Nat.zero_add] at cw
     have HWD := Lib.hid (fun w' (ht' : TabOk w' tb) => (word_any tb k w' ht').mono (R' := fun e w'' => e = .returned (.int .u32 (kAt k)) ∧ TabPost tb w' w'') (by
      rintro e w'' ⟨rfl, h⟩
      refine ⟨ret_int ?_, h⟩
      unfold kB; rw [if_pos (by omega)]; rfl))
     generalize hwk : (wPre bs 64).getD k 0 = wk at *
     have HWK := Lib.hid hwk
     clear hwk
     generalize kAt k = kk at *
     obtain ⟨c0, _, _, _, c4, _, _, _⟩ := HV2.out.c
     go_wp2_with fail
     refine wp_region_held_drew (S := fun w' => w'.cell? ⟨V, 0, none⟩ = some (.int .u32 a0) ∧ w'.cell? ⟨V, 4, none⟩ = some (.int .u32 a4)) (by kernel_rfl) ?_ (fun hHeld => ?_)
     · exact ⟨c0, c4⟩
     refine tk 0 93 ?_
     simp only [lz]
     refine tk 1 94 ?_
     simp only [lz]
     refine tk 2 95 ?_
     simp only [lz]
     refine tk 3 96 ?_
     simp only [lz]
     refine tk 4 14 ?_
     simp only [lz]
     refine tk 5 15 ?_
     simp only [lz]
     refine wpAnyH_done (by kernel_rfl) ?_ _
     clear hHeld c0 c4
     have HV5 := Lib.hid (HV2.out.same (w' := wr.drew) rfl)
     have HT5 := Lib.hid (HT3.out.same (w' := wr.drew) rfl)
     have HA5 := Lib.hid (HA3.out.same (w' := wr.drew) rfl)
     have HK5 := Lib.hid (HK3.out.drew)
     clear HV2 HT3 HA3 HK3 cw
     generalize wr.drew = w5 at *
     have HSK : Hid (∀ w', Keeps (fun i => i = tb) w5 w' → TabOk w' tb → V8 w' V 99 a0 a1 a2 a3 a4 a5 a6 a7 ∧ (w'.cell? ⟨V, 5, none⟩ = some (.int .u32 a5) ∧ w'.cell? ⟨V, 6, none⟩ = some (.int .u32 a6) ∧ w'.cell? ⟨V, 7, none⟩ = some (.int .u32 a7) ∧ w'.cell? ⟨W, k, none⟩ = some (.int .u32 wk)) ∧ TabOk w' tb) := Lib.hid (by
      intro w' hk ht
      have h1 := HV5.out.same (hk.block V HV5.out.lt (fun e => HNE2.out.1 e.symm))
      have h2 := HA5.out.same (hk.block W HA5.out.lt (fun e => HNE2.out.2.1 e.symm))
      have h3 := (h2.cell k hlt).1
      rw [Nat.zero_add, HWK.out] at h3
      obtain ⟨_, _, _, _, _, q5, q6, q7⟩ := h1.c
      exact ⟨h1, ⟨q5, q6, q7, h3⟩, ht⟩)
     go_wp2_with fail
     refine (rotI_any a4 6 (-6) HI4.out (by omega) (by omega) (by decide) w5).mono ?_
     rintro e w6 ⟨rfl, rfl⟩
     go_wp2_with fail
     refine (rotI_any a4 11 (-11) HI4.out (by omega) (by omega) (by decide) w5).mono ?_
     rintro e w6 ⟨rfl, rfl⟩
     go_wp2_with fail
     refine (rotI_any a4 25 (-25) HI4.out (by omega) (by omega) (by decide) w5).mono ?_
     rintro e w6 ⟨rfl, rfl⟩
     go_wp2_with fail
     generalize hs1 : bits BinOp.xor .u32 (bits BinOp.xor .u32 (rotI a4 6) (rotI a4 11)) (rotI a4 25) = s1 at *
     have HS1 := Lib.hid hs1
     clear hs1
     refine wp_region_held_drew (S := fun w' => Keeps (fun i => i = tb) w5 w' ∧ (w'.cell? ⟨V, 5, none⟩ = some (.int .u32 a5) ∧ w'.cell? ⟨V, 6, none⟩ = some (.int .u32 a6) ∧ w'.cell? ⟨V, 7, none⟩ = some (.int .u32 a7) ∧ w'.cell? ⟨W, k, none⟩ = some (.int .u32 wk)) ∧ TabOk w' tb) (by kernel_rfl) ?_ (fun hHeld => ?_)
     · exact ⟨(Keeps.refl _ _).drew, (HSK.out w5.drew (Keeps.refl _ _).drew (HT5.out.same rfl)).2.1, HT5.out.same rfl⟩
     refine tk 0 105 ?_
     simp only [lz]
     refine tk 1 106 ?_
     simp only [lz]
     refine tk 2 107 ?_
     simp only [lz]
     refine tk 3 108 ?_
     simp only [lz]
     refine tk 4 109 ?_
     simp only [lz]
     refine tk 5 110 ?_
     simp only [lz]
     refine tk 6 111 ?_
     simp only [lz]
     refine tk 7 112 ?_
     simp only [lz]
     refine tk 8 113 ?_
     simp only [lz]
     refine tk 9 114 ?_
     simp only [lz]
     refine tk 10 115 ?_
     simp only [lz]
     refine tk 11 116 ?_
     simp only [lz]
     refine tk 12 117 ?_
     simp only [lz]
     refine tk 13 118 ?_
     simp only [lz]
     refine tk 14 119 ?_
     simp only [lz]
     refine tk 15 120 ?_
     simp only [lz]
     refine tk 16 121 ?_
     simp only [lz]
     refine tk 19 124 ?_
     simp only [lz]
     refine tk 20 125 ?_
     simp only [lz]
     refine tk 21 126 ?_
     simp only [lz]
     refine wpAnyH_ready (rs := [17]) (by kernel_rfl) (by simp) ?_
     refine AllReadyH.cons rfl (fun K hK => ?_) AllReadyH.nil
     go_simp
     go_at_call 137
     refine (HWD.out _ hHeld.2.2).mono ?_
     rintro e w7 ⟨rfl, ht7, hk7⟩
     have HTX := Lib.hid (show TabOk w7 tb from Or.inr ht7)
     have HKX := Lib.hid (hHeld.1.trans hk7 (fun i h => Or.inl h))
     clear ht7 hk7 hHeld
     dsimp only
     refine hK.out _ _ ?_ (fun hHeld => ?_)
     · exact ⟨HKX.out, (HSK.out _ HKX.out HTX.out).2.1, HTX.out⟩
     clear hK K
     try simp only [Act.put, lg]
     try simp only [lz]
     refine tk 18 123 ?_
     simp only [lz]
     refine tk 22 127 ?_
     simp only [lz]
     refine tk 23 17 ?_
     simp only [lz]
     refine wpAnyH_done (by kernel_rfl) ?_ _
     obtain ⟨one, hone⟩ : ∃ one, one = oneF kk wk a4 a5 a6 a7 := ⟨_, rfl⟩
     have e1 : IntKind.u32.wrap (IntKind.u32.wrap (IntKind.u32.wrap (IntKind.u32.wrap (a7 + s1) + bits .xor .u32 (bits .and .u32 a4 a5) (bits .and .u32 (bits .xor .u32 (if IntKind.u32.signed = true then -1 else IntKind.u32.max) a4) a6)) + kk) + wk) = one := by
      rw [hone, ← HS1.out]
      unfold oneF bg1 chF cpl
      simp only [IntKind.wrap_u32]
      rfl
     rw [e1]
     rw [← hone] at HRN
     clear hHeld e1 hone HS1
     have HV7 := Lib.hid (HSK.out _ HKX.out HTX.out).1
     have HK7 := Lib.hid (HK5.out.trans HKX.out (fun i h => Or.inl (Or.inl h)))
     clear HKX HSK HV5 HT5 HA5 HK5 HWD HWK
     go_wp2_with fail
     refine (rotI_any a0 2 (-2) HI0.out (by omega) (by omega) (by decide) w7).mono ?_
     rintro e w8 ⟨rfl, rfl⟩
     go_wp2_with fail
     refine (rotI_any a0 13 (-13) HI0.out (by omega) (by omega) (by decide) w7).mono ?_
     rintro e w8 ⟨rfl, rfl⟩
     go_wp2_with fail
     refine (rotI_any a0 22 (-22) HI0.out (by omega) (by omega) (by decide) w7).mono ?_
     rintro e w8 ⟨rfl, rfl⟩
     obtain ⟨_, c1, c2, _, _, _, _, _⟩ := HV7.out.c
     go_wp2_with fail
     obtain ⟨two, htwo⟩ : ∃ two, two = twoF a0 a1 a2 := ⟨_, rfl⟩
     have e2 : (bits BinOp.xor .u32 (bits BinOp.xor .u32 (rotI a0 2) (rotI a0 13)) (rotI a0 22) + bits BinOp.xor .u32 (bits BinOp.xor .u32 (bits BinOp.and .u32 a0 a1) (bits BinOp.and .u32 a0 a2)) (bits BinOp.and .u32 a1 a2)) % 4294967296 = two := by
      rw [htwo]; rfl
     rw [e2]
     rw [← htwo] at HRN
     generalize bits BinOp.xor .u32 (bits BinOp.xor .u32 (rotI a0 2) (rotI a0 13)) (rotI a0 22) = s2
     clear e2 htwo c1 c2
     refine wp_region_held_drew (S := fun _ => True) (by kernel_rfl) ?_ (fun hHeld => ?_)
     · trivial
     refine tk 0 153 ?_
     simp only [lz]
     refine tk 1 154 ?_
     simp only [lz]
     refine wpAnyH_ready (rs := [2]) (by kernel_rfl) (by simp) ?_
     refine AllReadyH.cons rfl (fun K hK => ?_) AllReadyH.nil
     go_simp
     obtain ⟨w8, hcp, h8v, hk8⟩ := V8.shift (HV7.out.same (w' := w7.drew) rfl) 3
     have HV8 := Lib.hid h8v
     have HK8 := Lib.hid (HK7.out.drew.trans hk8 (fun i h => Or.inl (Or.inr h)))
     have HT8 := Lib.hid (HTX.out.same (w' := w8) (hk8.block tb HTX.out.lt HNE2.out.1))
     clear h8v hk8 hHeld
     rw [hcp]
     clear hcp
     go_wp2_with fail
     refine hK.out _ _ ?_ (fun hHeld => ?_)
     · trivial
     clear hK K
     try simp only [Act.put, lg]
     try simp only [lz]
     refine wpAnyH_done (by kernel_rfl) ?_ _
     clear HV7 HK7 HTX
     obtain ⟨_, _, _, _, c4, _, _, _⟩ := HV8.out.c
     have f4 := HV8.out.f 4
     have f0 := HV8.out.f 0
     obtain ⟨q0, _, _, _, _, _, _, _⟩ := HV8.out.c
     go_wp2_with fail
     have hk9 : Keeps (fun i => i = V) w8 ((w8.setCell ⟨V, 4, none⟩ (.int .u32 ((a3 + one) % 4294967296))).setCell ⟨V, 0, none⟩ (.int .u32 ((one + two) % 4294967296))) := ((Keeps.refl (fun i => i = V) w8).setCell (p := ⟨V, 4, none⟩) (Or.inl rfl) _).setCell (p := ⟨V, 0, none⟩) (Or.inl rfl) _
     go_roundw
     case rel => exact ⟨k + 1, by omega, by go_num, _, _, _, _, _, _, _, _, HRN.out, (HV8.out.set4 _).set0 _, HT8.out.same (hk9.block tb HT8.out.lt HNE2.out.1), HK8.out.trans hk9 (fun i h => Or.inl (Or.inr h))⟩
     case measure => simp [intOf]; omega
   · obtain rfl : k = 64 := by omega
     have HMX : Hid (∀ j, j < 8 → (mixF [h0, h1, h2, h3, h4, h5, h6, h7] bs).getD j 0 = ([h0, h1, h2, h3, h4, h5, h6, h7].getD j 0 + [a0, a1, a2, a3, a4, a5, a6, a7].getD j 0) % 4294967296) := Lib.hid (by
      intro j hj
      unfold mixF
      rw [HR.out]
      match j, hj with
      | 0, _ => rfl
      | 1, _ => rfl
      | 2, _ => rfl
      | 3, _ => rfl
      | 4, _ => rfl
      | 5, _ => rfl
      | 6, _ => rfl
      | 7, _ => rfl)
     have HVA : Hid (ArrAt wr V 99 8 0 (fun j => [a0, a1, a2, a3, a4, a5, a6, a7].getD j 0)) := Lib.hid (V8.arr HV2.out)
     have HB4 : Hid (hb < V ∧ hb ≠ W ∧ hb ≠ tb) := Lib.hid (by have h1 := HH.out.lt; have := HLT.out; have := HNE.out; have := HWe.out; omega)
     have HHR := Lib.hid (HHV.out.same (HK3.out.block hb HHV.out.lt (by have := HB4.out; omega)))
     have HKR : Hid (Keeps (fun i => i = tb ∨ i = hb) w wr) := Lib.hid ((HKV.out.mono (S' := fun i => i = tb ∨ i = hb) (fun i hi h => absurd h (by have := HWe.out; omega))).trans HK3.out (fun i h => by
      rcases h with h | h
      · exact Or.inl (Or.inl h)
      · exact Or.inr (by have := HLT.out; have := HWe.out; omega)))
     clear HV2 HK3 HA3 HIN HLL HAV HTV HHV HV HKV HWV HBV HA1 HB1 HC HW1 HTAB HH HBS HN HBY
     generalize mixF [h0, h1, h2, h3, h4, h5, h6, h7] bs = MX at *
     generalize [a0, a1, a2, a3, a4, a5, a6, a7] = As at *
     generalize [h0, h1, h2, h3, h4, h5, h6, h7] = Hs at *
     rw [show ((64 : Nat) : Int) = 64 from rfl]
     go_wp2_with fail
     go_loopw [166] (fun i wi => ∃ k : Nat, k ≤ 8 ∧ i = .int .i64 k ∧ ArrF wi hb TH 8 ho (fun j => if j < k then MX.getD j 0 else Hs.getD j 0) c0 ∧ TabOk wi tb ∧ Keeps (fun i => i = hb) wr wi) (fun i _ => 8 - (intOf i).toNat)
     case atStart => exact ⟨0, Nat.zero_le _, rfl, HHR.out.to (fun j _ => by simp), HT3.out, Keeps.refl _ _⟩
     case round =>
      obtain ⟨k, hk, rfl, ha, ht, hkp⟩ := hrel
      have HHI2 := Lib.hid ha
      have HTI := Lib.hid ht
      have HKI := Lib.hid hkp
      clear ha ht hkp
      by_cases hlt : k < 8
      · have j0 : (0 : Int) ≤ (k : Int) := by omega
        have j1 : (k : Int) < 8 := by omega
        obtain ⟨ch, fh⟩ := HHI2.out.cell k hlt
        rw [if_neg (by omega)] at ch
        obtain ⟨cv, _⟩ := (HVA.out.same (HKI.out.block V HVA.out.lt (by have := HB4.out; omega))).cell k hlt
        simp only [Nat.zero_add] at cv
        go_wp2_with fail
        refine wp_region_held_drew (S := fun w' => w'.cell? ⟨V, k, none⟩ = some (.int .u32 (As.getD k 0))) (by kernel_rfl) ?_ (fun hHeld => ?_)
        · exact cv
        refine tk 0 169 ?_
        simp only [lz]
        refine tk 1 170 ?_
        simp only [lz]
        refine tk 2 171 ?_
        simp only [lz]
        refine tk 3 172 ?_
        simp only [lz]
        refine tk 5 174 ?_
        simp only [lz]
        refine tk 6 175 ?_
        simp only [lz]
        refine tk 7 176 ?_
        simp only [lz]
        refine tk 9 178 ?_
        simp only [lz]
        refine wpAnyH_ready (rs := [4]) (by kernel_rfl) (by simp) ?_
        refine AllReadyH.cons rfl (fun K hK => ?_) AllReadyH.nil
        go_simp
        go_wp2_with fail
        refine hK.out _ _ ?_ (fun hHeld => ?_)
        · exact cv
        clear hK K
        try simp only [Act.put, lg]
        try simp only [lz]
        refine tk 8 177 ?_
        simp only [lz]
        refine tk 10 179 ?_
        simp only [lz]
        refine wpAnyH_ready (rs := [11]) (by kernel_rfl) (by simp) ?_
        refine AllReadyH.cons rfl (fun K hK => ?_) AllReadyH.nil
        go_simp
        go_wp2_with fail
        refine hK.out _ _ ?_ (fun hHeld => ?_)
        · exact (World.cell?_setCell_other _ ⟨hb, ho + k, none⟩ ⟨V, k, none⟩ _ (by have := HB4.out; simp <;> omega)).trans cv
        clear hK K
        try simp only [Act.put, lg]
        try simp only [lz]
        refine wpAnyH_done (by kernel_rfl) ?_ _
        go_wp2_with fail
        have hk9 : Keeps (fun i => i = hb) wr ((wr.setCell ⟨hb, ho + k, none⟩ (.int .u32 ((Hs[k]?.getD 0 + As[k]?.getD 0) % 4294967296))).drew) := ((Keeps.refl (fun i => i = hb) wr).setCell (p := ⟨hb, ho + k, none⟩) (Or.inl rfl) _).drew
        go_roundw
        case rel =>
         refine ⟨k + 1, by omega, by go_num, ((HHI2.out.set k hlt _).same rfl).to (fun j hj => ?_), HTI.out.same (hk9.block tb HTI.out.lt (by have := HB4.out; omega)), HKI.out.trans hk9 (fun i h => Or.inl h)⟩
         by_cases e : j = k
         · subst e
           rw [if_pos rfl, if_pos (by omega), HMX.out j hlt]
           simp only [List.getD]
         · rw [if_neg e]
           by_cases e2 : j < k
           · rw [if_pos e2, if_pos (by omega)]
           · rw [if_neg e2, if_neg (by omega)]
        case measure => simp [intOf]; omega
      · obtain rfl : k = 8 := by omega
        go_wp2
        go_end0
        exact ⟨rfl, HTI.out, HHI2.out.to (fun j hj => by rw [HMF.out, if_pos hj]), HKR.out.trans HKI.out (fun i h => Or.inl (Or.inr h))⟩
def hInit : List Int := [hAt 0, hAt 1, hAt 2, hAt 3, hAt 4, hAt 5, hAt 6, hAt 7]
def absN : Nat → List Int → List Int → List Int × List Int
 | 0, hs, bs => (hs, bs)
 | n + 1, hs, bs => absN n (mixF hs (bs.take 64)) (bs.drop 64)
def absF (hs bs : List Int) : List Int × List Int := absN (bs.length / 64) hs bs
theorem absN_two : ∀ (n : Nat) (hs bs : List Int), (absN n hs bs).2 = bs.drop (64 * n)
 | 0, hs, bs => by simp [absN]
 | n + 1, hs, bs => by
   unfold absN
   rw [absN_two n, List.drop_drop]
   congr 1; omega
theorem absN_app : ∀ (n : Nat) (hs xs ys : List Int), 64 * n ≤ xs.length → absN n hs (xs ++ ys) = ((absN n hs xs).1, (absN n hs xs).2 ++ ys)
 | 0, hs, xs, ys, _ => rfl
 | n + 1, hs, xs, ys, h => by
   unfold absN
   rw [List.take_append_of_le_length (by omega), List.drop_append_of_le_length (by omega), absN_app n _ _ _ (by simp; omega)]
theorem absN_add : ∀ (n m : Nat) (hs bs : List Int), absN (n + m) hs bs = absN m (absN n hs bs).1 (absN n hs bs).2
 | 0, m, hs, bs => by simp [absN]
 | n + 1, m, hs, bs => by
   rw [show n + 1 + m = (n + m) + 1 by omega]
   show absN (n + m) _ _ = _
   rw [absN_add n m]
   rfl
theorem absN_succ (n : Nat) (hs bs : List Int) : absN (n + 1) hs bs = (mixF (absN n hs bs).1 ((bs.drop (64 * n)).take 64), bs.drop (64 * (n + 1))) := by
 rw [absN_add n 1]
 have h2 := absN_two n hs bs
 generalize absN n hs bs = x at *
 obtain ⟨a, b⟩ := x
 subst h2
 show (mixF a _, _) = _
 rw [List.drop_drop]
 rfl
theorem absF_two (hs bs : List Int) : (absF hs bs).2 = bs.drop (64 * (bs.length / 64)) := absN_two _ _ _
theorem absF_len (hs bs : List Int) : (absF hs bs).2.length = bs.length % 64 := by
 rw [absF_two]; simp; omega
theorem absF_app (hs xs ys : List Int) : absF hs (xs ++ ys) = absF (absF hs xs).1 ((absF hs xs).2 ++ ys) := by
 have hl := absF_len hs xs
 have e : (xs ++ ys).length / 64 = xs.length / 64 + ((absF hs xs).2 ++ ys).length / 64 := by
  simp only [List.length_append, hl]; omega
 show absN _ _ _ = absN _ _ _
 rw [e, absN_add, absN_app _ _ _ _ (by omega)]
 rfl
theorem mixF_len (hs bs : List Int) (h : hs.length = 8) : (mixF hs bs).length = 8 := by
 unfold mixF
 rw [List.length_zipWith, vRun_len _ _ h, h]; rfl
theorem mixF_in (hs bs : List Int) (j : Nat) : InU ((mixF hs bs).getD j 0) := by
 unfold mixF
 simp only [List.getD, List.getElem?_zipWith]
 split
 · exact inU_mod _
 · exact ⟨by decide, by decide⟩
theorem absN_len : ∀ (n : Nat) (hs bs : List Int), hs.length = 8 → (absN n hs bs).1.length = 8
 | 0, hs, bs, h => h
 | n + 1, hs, bs, h => absN_len n _ _ (mixF_len hs _ h)
theorem absN_in : ∀ (n : Nat) (hs bs : List Int), (∀ j, InU (hs.getD j 0)) → ∀ j, InU ((absN n hs bs).1.getD j 0)
 | 0, hs, bs, h => h
 | n + 1, hs, bs, h => absN_in n _ _ (mixF_in hs _)
theorem hAt_in (i : Nat) : InU (hAt i) := by
 unfold hAt hWord
 exact ⟨by omega, by omega⟩
theorem hInit_in (j : Nat) : InU (hInit.getD j 0) := by
 match j with
 | 0 => exact hAt_in 0
 | 1 => exact hAt_in 1
 | 2 => exact hAt_in 2
 | 3 => exact hAt_in 3
 | 4 => exact hAt_in 4
 | 5 => exact hAt_in 5
 | 6 => exact hAt_in 6
 | 7 => exact hAt_in 7
 | j + 8 => exact ⟨by simp [hInit], by simp [hInit]⟩
theorem hInit_len : hInit.length = 8 := rfl
def stH (all : List Int) : List Int := (absF hInit all).1
def stR (all : List Int) : List Int := (absF hInit all).2
theorem stH_len (all : List Int) : (stH all).length = 8 := absN_len _ _ _ hInit_len
theorem stH_in (all : List Int) (j : Nat) : InU ((stH all).getD j 0) := absN_in _ _ _ hInit_in j
theorem stR_len (all : List Int) : (stR all).length = all.length % 64 := absF_len _ _
theorem stR_eq (all : List Int) : stR all = all.drop (64 * (all.length / 64)) := absF_two _ _
theorem st_app (all bs : List Int) : (stH (all ++ bs), stR (all ++ bs)) = absF (stH all) (stR all ++ bs) := by
 show ((absF _ _).1, (absF _ _).2) = _
 rw [absF_app]; rfl
def bytesBE (n : Int) : Nat → List Int
 | 0 => []
 | k + 1 => (n / 256 ^ k % 256) :: bytesBE n k
theorem bytesBE_len (n : Int) : ∀ k, (bytesBE n k).length = k
 | 0 => rfl
 | k + 1 => by simp [bytesBE, bytesBE_len n k]
def padN (n : Nat) : Nat := (119 - n % 64) % 64
def padF (all : List Int) : List Int := stR all ++ ([128] ++ List.replicate (padN (all.length)) 0 ++ bytesBE (8 * (all.length : Int) % 18446744073709551616) 8)
def outF (hs : List Int) : List Int := hs.flatMap (fun h => bytesBE h 4)
def shaF (all : List Int) : List Int := outF (absF (stH all) (padF all)).1
theorem padF_len (all : List Int) : (padF all).length % 64 = 0 := by
 unfold padF padN
 simp only [List.length_append, stR_len, bytesBE_len, List.length_replicate, List.length_cons, List.length_nil]
 omega
theorem outF_len (hs : List Int) : (outF hs).length = 4 * hs.length := by
 unfold outF
 induction hs with
 | nil => rfl
 | cons h hs ih => simp only [List.flatMap_cons, List.length_append, bytesBE_len, ih, List.length_cons]; omega
theorem shaF_len (all : List Int) : (shaF all).length = 32 := by
 unfold shaF
 rw [outF_len, show ((absF (stH all) (padF all)).1).length = 8 from absN_len _ _ _ (stH_len all)]
end Go.Proofs.YtkaciaehlibidaaGreat
