/- Contract of cflref.Bytes: are two byte slices the same? -/
import Derived.Test.YtbhoakohpfdeoaaGreatHeap
namespace Go.Proofs.YtbhoakohpfdeoaaGreat
open Go.RowKit
set_option linter.unusedVariables false
set_option linter.unusedSimpArgs false

def InB (zs : List Int) : Prop := ∀ z ∈ zs, 0 ≤ z ∧ z ≤ 255
def eqB (xs ys : List Int) : Bool := decide (xs = ys)
theorem eqB_self (xs : List Int) : eqB xs xs = true := by simp [eqB]

theorem conv_u8 {P : Program} {w : World} {ao : Option Addr} {zs : List Int} {n : Nat} (cap : Nat) (src e dst : TypeId) (hs : P.underlying src = some (.slice e)) (he : P.underlying e = some (.int .u8)) (hd : P.underlying dst = some .string)
    (h : IntsAt .u8 w ao zs) (hn : zs.length = n) : (convert src dst (.slice ao n cap)).run P w = .ok (.string (strOfNums zs)) w := by
  cases ao with
  | none =>
    have h0 := ints_none h
    rw [run_convert_bytes_nil w src e hs he n cap dst hd, List.length_eq_zero_iff.1 h0]
    rfl
  | some a =>
    rcases h with rfl | ⟨b, off, hb, hc⟩
    · simp at hn; subst hn
      have hl : (loadCells a 0).run P w = .ok (([] : List Int).map (Value.int .u8)).toArray w := by
        have := run_loadCells_list (P := P) w a (([] : List Int).map (Value.int .u8)) (fun j v hj => by simp at hj)
        simpa using this
      rw [run_convert_bytes_string w src dst e _ 0 cap hs he hd, run_bytesToString w _ 0 cap [] hl]
      rfl
    · cases hb
      exact run_convert_bytes_arg w src e hs he b off n cap zs hn (fun i hi => hc i (by omega)) dst hd

theorem map_u8_inj : ∀ {xs ys : List Int}, InB xs → InB ys → (xs.map fun n => UInt8.ofNat n.toNat) = (ys.map fun n => UInt8.ofNat n.toNat) → xs = ys
  | [], [], _, _, _ => rfl
  | [], _ :: _, _, _, h => by simp at h
  | _ :: _, [], _, _, h => by simp at h
  | x :: xs, y :: ys, hx, hy, h => by
    simp only [List.map_cons, List.cons.injEq] at h
    have h1 := hx x (by simp)
    have h2 := hy y (by simp)
    have e : x = y := by
      have := congrArg UInt8.toNat h.1
      rw [UInt8.toNat_ofNat', UInt8.toNat_ofNat'] at this
      omega
    rw [e, map_u8_inj (fun z hz => hx z (by simp [hz])) (fun z hz => hy z (by simp [hz])) h.2]
theorem strOf_inj {xs ys : List Int} (hx : InB xs) (hy : InB ys) : ((strOfNums xs).toList == (strOfNums ys).toList) = eqB xs ys := by
  have hl : ∀ zs : List Int, (strOfNums zs).toList = zs.map fun n => UInt8.ofNat n.toNat := fun zs => by
    rw [← strOfNums_data]; exact ByteArray.toList_eq _
  rw [hl, hl, Bool.eq_iff_iff]
  simp only [beq_iff_eq, eqB, decide_eq_true_eq]
  exact ⟨map_u8_inj hx hy, fun h => by rw [h]⟩


theorem inB_drop {zs : List Int} (h : InB zs) (k : Nat) : InB (zs.drop k) := fun z hz => h z (List.mem_of_mem_drop hz)
theorem inB_take {zs : List Int} (h : InB zs) (k : Nat) : InB (zs.take k) := fun z hz => h z (List.mem_of_mem_take hz)
theorem inB_app {xs ys : List Int} (h : InB xs) (h' : InB ys) : InB (xs ++ ys) := fun z hz => (List.mem_append.1 hz).elim (h z) (h' z)
theorem IntsAt.take {k : IntKind} {w : World} {ao : Option Addr} {zs : List Int} (h : IntsAt k w ao zs) (n : Nat) : IntsAt k w ao (zs.take n) := by
  rcases h with rfl | ⟨b, off, he, hc⟩
  · exact Or.inl (by simp)
  · refine Or.inr ⟨b, off, he, fun i hi => ?_⟩
    simp only [List.length_take] at hi
    rw [hc i (by omega)]
    simp [List.getD, List.getElem?_take, (by omega : i < n)]
theorem IntsAt.drop {k : IntKind} {w : World} {b off : Nat} {zs : List Int} (h : IntsAt k w (some ⟨b, off, none⟩) zs) (n : Nat) : IntsAt k w (some ⟨b, off + n, none⟩) (zs.drop n) := by
  rcases h with rfl | ⟨b', off', he, hc⟩
  · exact Or.inl (by simp)
  · cases he
    refine Or.inr ⟨b, off + n, rfl, fun i hi => ?_⟩
    simp only [List.length_drop] at hi
    rw [Nat.add_assoc, hc (n + i) (by omega)]
    simp [List.getD]


end Go.Proofs.YtbhoakohpfdeoaaGreat
