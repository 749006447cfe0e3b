/- Contracts of (*sha.Table).Word, Start; NewTable. -/
import Derived.Test.YtbhoakohpfdeoaaGreatSha4
import Derived.Laws.BitsAllLaws
namespace Go.Proofs.YtbhoakohpfdeoaaGreat
open Go.RowKit
set_option linter.unusedVariables false
set_option linter.unusedSimpArgs false

/-- A table: not reckoned yet, or reckoned. -/
def TabOk (w : World) (b : Nat) : Prop := (∃ kv hv, Tab w b 0 0 kv hv) ∨ Tab w b 1 0 kAt hAt
theorem TabOk.lt {w : World} {b : Nat} (h : TabOk w b) : b < w.heap.size := by
  rcases h with ⟨_, _, h⟩ | h <;> exact h.lt
theorem TabOk.below {w w' : World} {b : Nat} (h : TabOk w b) (hb : Below w.heap.size w w') : TabOk w' b := by
  rcases h with ⟨kv, hv, h⟩ | h
  · exact Or.inl ⟨kv, hv, h.below hb⟩
  · exact Or.inr (h.below hb)
theorem TabOk.same {w w' : World} {b : Nat} (h : TabOk w b) (he : w'.heap[b]? = w.heap[b]?) : TabOk w' b := by
  rcases h with ⟨kv, hv, h⟩ | h
  · exact Or.inl ⟨kv, hv, h.same he⟩
  · exact Or.inr (h.same he)
def TabPost (b : Nat) (w w' : World) : Prop := Tab w' b 1 0 kAt hAt ∧ Keeps (fun i => i = b) w w'
theorem do_tab (b : Nat) (w : World) (h : TabOk w b) :
    Calls Tryz.prog 73 #[.pointer (some ⟨b, 0, none⟩), .func (.func 74) #[.pointer (some ⟨b, 0, none⟩)] #[]] w fun e w' => e = .returned (.tuple #[]) ∧ TabPost b w w' := by
  rcases h with ⟨kv, hv, h⟩ | h
  · have h1 := h.setS 1
    have k1 : Keeps (fun i => i = b) w (w.setCell ⟨b, 1, none⟩ (.int .i32 1)) := (Keeps.refl (fun i => i = b) w).setCell (p := ⟨b, 1, none⟩) (Or.inl rfl) _
    have hd := do_first b 0 ⟨b, 0, none⟩ w (fun w' => Tab w' b 0 1 kAt hAt ∧ Keeps (fun i => i = b) w w') h.dn.1 h.st.1 h.dn.2 h.st.2
      ((reckon_any b 0 1 kv hv _ h1).mono (by
        rintro e w' ⟨rfl, ht, hk⟩
        exact ⟨rfl, ht, k1.trans hk (fun i hi => Or.inl hi)⟩))
      (fun w' hq => ⟨hq.1.dn, hq.1.st⟩)
    refine hd.mono ?_
    rintro e w' ⟨rfl, wq, ⟨ht, hk⟩, rfl⟩
    refine ⟨rfl, ?_, ?_⟩
    · exact ((ht.same (w' := wq.drew) rfl).setD 1).setS 0
    · exact hk.trans (((Keeps.refl (fun i => i = b) wq).drew.setCell (p := ⟨b, 0, none⟩) (Or.inl rfl) _).setCell (p := ⟨b, 1, none⟩) (Or.inl rfl) _) (fun i hi => Or.inl hi)
  · refine (do_done ⟨b, 0, none⟩ 1 (by decide) _ w h.dn.1).mono ?_
    rintro e w' ⟨rfl, rfl⟩
    exact ⟨rfl, h, Keeps.refl _ _⟩
def kB (i : Int) : Int := if 0 ≤ i ∧ i < 64 then kAt i.toNat else 0
def hB (i : Int) : Int := if 0 ≤ i ∧ i < 8 then hAt i.toNat else 0
set_option maxRecDepth 100000 in
set_option maxHeartbeats 1000000 in
theorem word_any (b : Nat) (i : Int) (w : World) (h : TabOk w b) :
    Calls Tryz.prog 76 #[.pointer (some ⟨b, 0, none⟩), .int .i64 i] w fun e w' => e = .returned (.int .u32 (kB i)) ∧ TabPost b w w' := by
  have hmf : ∀ (fn : Fn) (first cap : Array Value) (w : World), (Instr.makeFunc fn first cap).run Tryz.prog w = .ok (.func fn first cap) w := fun _ _ _ _ => rfl
  have HD := Lib.hid (do_tab b w h)
  clear h
  go_enter Tryz.func76, Tryz.ntmps76
  go_wp2_with fail
  refine HD.out.mono ?_
  rintro e w' ⟨rfl, ht, hk⟩
  have HT := Lib.hid ht
  have HK := Lib.hid hk
  clear ht hk
  by_cases h0 : i < 0
  · have HR := Lib.hid (show kB i = 0 by unfold kB; rw [if_neg (by omega)])
    go_wp2
    go_ret
    exact ⟨ret_int HR.out.symm, HT.out, HK.out⟩
  obtain ⟨k, rfl⟩ := Int.eq_ofNat_of_zero_le (Int.not_lt.1 h0)
  by_cases h1 : (64 : Int) ≤ (k : Int)
  · have HR := Lib.hid (show kB k = 0 by unfold kB; rw [if_neg (by omega)])
    go_wp2
    go_ret
    exact ⟨ret_int HR.out.symm, HT.out, HK.out⟩
  have HR := Lib.hid (show kB k = kAt k by unfold kB; rw [if_pos (by omega)]; rfl)
  obtain ⟨c, f⟩ := HT.out.kc k (by omega)
  have j1 : (k : Int) < 64 := by omega
  have j0 : (0 : Int) ≤ (k : Int) := by omega
  go_wp2
  go_ret
  exact ⟨ret_int HR.out.symm, HT.out, HK.out⟩
set_option maxRecDepth 100000 in
set_option maxHeartbeats 1000000 in
theorem start_any (b : Nat) (i : Int) (w : World) (h : TabOk w b) :
    Calls Tryz.prog 66 #[.pointer (some ⟨b, 0, none⟩), .int .i64 i] w fun e w' => e = .returned (.int .u32 (hB i)) ∧ TabPost b w w' := by
  have hmf : ∀ (fn : Fn) (first cap : Array Value) (w : World), (Instr.makeFunc fn first cap).run Tryz.prog w = .ok (.func fn first cap) w := fun _ _ _ _ => rfl
  have HD := Lib.hid (do_tab b w h)
  clear h
  go_enter Tryz.func66, Tryz.ntmps66
  go_wp2_with fail
  refine HD.out.mono ?_
  rintro e w' ⟨rfl, ht, hk⟩
  have HT := Lib.hid ht
  have HK := Lib.hid hk
  clear ht hk
  by_cases h0 : i < 0
  · have HR := Lib.hid (show hB i = 0 by unfold hB; rw [if_neg (by omega)])
    go_wp2
    go_ret
    exact ⟨ret_int HR.out.symm, HT.out, HK.out⟩
  obtain ⟨k, rfl⟩ := Int.eq_ofNat_of_zero_le (Int.not_lt.1 h0)
  by_cases h1 : (8 : Int) ≤ (k : Int)
  · have HR := Lib.hid (show hB k = 0 by unfold hB; rw [if_neg (by omega)])
    go_wp2
    go_ret
    exact ⟨ret_int HR.out.symm, HT.out, HK.out⟩
  have HR := Lib.hid (show hB k = hAt k by unfold hB; rw [if_pos (by omega)]; rfl)
  obtain ⟨c, f⟩ := HT.out.hc k (by omega)
  have j1 : (k : Int) < 8 := by omega
  have j0 : (0 : Int) ≤ (k : Int) := by omega
  go_wp2
  go_ret
  exact ⟨ret_int HR.out.symm, HT.out, HK.out⟩

theorem zt_size : Tryz.zeroCells92.size = 75 := by kernel_rfl
theorem zt_drop : Tryz.zeroCells92.toList.drop 3 = List.replicate 72 (.int .u32 0) := by kernel_rfl
theorem zt_0 : Tryz.zeroCells92[0]? = some (.int .u32 0) := by kernel_rfl
theorem zt_1 : Tryz.zeroCells92[1]? = some (.int .i32 0) := by kernel_rfl
theorem zt_at (j : Nat) (h : j < 72) : Tryz.zeroCells92[3 + j]? = some (.int .u32 0) := by
  rw [← Array.getElem?_toList, ← List.getElem?_drop, zt_drop, List.getElem?_replicate, if_pos h]
set_option maxRecDepth 100000 in
set_option maxHeartbeats 1000000 in
theorem newTable_any (w : World) : Calls Tryz.prog 31 #[] w fun e w' => e = .returned (.pointer (some ⟨w.heap.size, 0, none⟩)) ∧ TabOk w' w.heap.size ∧ Below w.heap.size w w' := by
  go_enter Tryz.func31, Tryz.ntmps31
  go_wp2
  go_ret
  refine ⟨rfl, Or.inl ⟨fun _ => 0, fun _ => 0, _, heap_alloc_new w _, zt_size, zt_0, zt_1, fun j hj => zt_at j (by omega), fun j hj => ?_⟩, (Below.refl _ _).alloc (Nat.le_refl _) _⟩
  have := zt_at (64 + j) (by omega)
  rwa [show 3 + (64 + j) = 67 + j by omega] at this

def rotr (x r : Nat) : Nat := (x * 2 ^ (32 - r) % 4294967296) ||| (x / 2 ^ r)
set_option maxHeartbeats 1000000 in
theorem rot_gen (x r : Nat) (k K : Int) (hx : x < 4294967296) (h1 : 1 ≤ r) (h2 : r ≤ 31) (hw : IntKind.u64.wrap k = K) (ha : bits .and .u64 K 31 = ((32 - r : Nat) : Int)) (w : World) :
    Calls Tryz.prog 75 #[.int .u32 x, .int .i64 k] w fun e w' => e = .returned (.int .u32 (rotr x r)) ∧ w = w' := by
  go_enter Tryz.func75, Tryz.ntmps75
  go_wp2
  go_ret
  refine ⟨ret_int ?_, rfl⟩
  have e1 : ((x : Int) * 2 ^ (32 - r) % 4294967296) = ((x * 2 ^ (32 - r) % 4294967296 : Nat) : Int) := by simp
  have e2 : ((x : Int) / 2 ^ (32 - (32 - r))) = ((x / 2 ^ r : Nat) : Int) := by
    rw [show 32 - (32 - r) = r by omega]; simp
  rw [e1, e2, u32_or_nat _ _ (by omega) (Nat.lt_of_le_of_lt (Nat.div_le_self _ _) hx)]
  rfl
theorem rot_k : ∀ r : Fin 32, 1 ≤ r.val → bits .and .u64 (IntKind.u64.wrap (-(r.val : Int))) 31 = ((32 - r.val : Nat) : Int) := by decide
theorem rot_any (x r : Nat) (k : Int) (hx : x < 4294967296) (h1 : 1 ≤ r) (h2 : r ≤ 31) (hk : k = -(r : Int)) (w : World) :
    Calls Tryz.prog 75 #[.int .u32 x, .int .i64 k] w fun e w' => e = .returned (.int .u32 (rotr x r)) ∧ w = w' :=
  rot_gen x r k _ hx h1 h2 rfl (by rw [hk]; exact rot_k ⟨r, by omega⟩ h1) w
theorem rotr_lt (x r : Nat) (hx : x < 4294967296) : rotr x r < 4294967296 := by
  have e : (4294967296 : Nat) = 2 ^ 32 := by decide
  unfold rotr
  rw [e] at *
  exact Nat.or_lt_two_pow (Nat.mod_lt _ (Nat.two_pow_pos 32)) (Nat.lt_of_le_of_lt (Nat.div_le_self _ _) hx)

end Go.Proofs.YtbhoakohpfdeoaaGreat
