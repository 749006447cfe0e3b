/- Parts of the proof: Frame Mul Num Sum Heap Argi Pur0. -/
import Derived.Test.YtkaciaehlibidaaGreatRows
import Derived.WalkKit
import Derived.WalkSpells
import Derived.WalkLawsBesides
import Derived.Lib.Hide
import Derived.Handy
import Derived.ProofKit
import Derived.OpenShut
import Derived.ShutString
import Derived.ChangeOld
import Derived.Below
import Derived.Lib.Mul64
import Derived.Shelf.Bits.Mul64
import Derived.Laws.Bits64b
import Derived.Deep.AppendLies
import Derived.Deep.AppendSrc
import Derived.Deep.QuietTactic
import Derived.BigQuiet
import Derived.Deep.RegionLaw
import Derived.Deep.DeepMust
import Derived.Lib.SliceRun
import Derived.Deep.RegionHeld3
import Derived.Deep.Slices
import Derived.Deep.Fields
namespace Go.Proofs.YtkaciaehlibidaaGreat
open Go.RowKit
set_option linter.unusedVariables false
set_option linter.unusedSimpArgs false
section
open Go.ChangeShapes Go.WideShapes Go.ChangeAt
def IntsAt (k : IntKind) (w : World) (ao : Option Addr) (zs : List Int) : Prop :=
 zs = [] ∨ ∃ b off, ao = some ⟨b, off, none⟩ ∧ ∀ i, i < zs.length → w.cell? ⟨b, off + i, none⟩ = some (.int k (zs.getD i 0))
theorem ret_bool {a b : Bool} (h : a = b) : Ending.returned (.bool a) = .returned (.bool b) := by rw [h]
theorem ret_int {k : IntKind} {a b : Int} (h : a = b) : Ending.returned (.int k a) = .returned (.int k b) := by rw [h]
theorem ret_two {k k' : IntKind} {a b c d : Int} (h : a = c) (h' : b = d) : Ending.returned (.tuple #[.int k a, .int k' b]) = .returned (.tuple #[.int k c, .int k' d]) := by rw [h, h']
theorem ints_of {H : Type} {enc : TypeId × Value → H} {P : Program} {W : World} {t e : TypeId} {k : IntKind} {ao : Option Addr} {len cap : Nat} {d : DataW H} {p : List MemPlace}
 (ht : P.underlying t = some (.slice e)) (he : P.underlying e = some (.int k)) (hc : P.cellsOf e = 1)
 (h : DataW.Trod enc P W 0 (fun _ => true) true t (.slice ao len cap) d p) :
 ∃ zs : List Int, len = zs.length ∧ IntsAt k W ao zs ∧ zs.length ≤ cap ∧ cap ≤ maxLen ∧ ∀ n ∈ zs, (Lit.int k n).wf = true := by
 obtain ⟨fuel, hf⟩ := h
 rcases open_ints ht he hc hf with ⟨hcs, _⟩ | ⟨x, l, c, zs, hcs, _, hl, hm, hz, _, hcell, hwz⟩
 · simp [Value.cells] at hcs
   obtain ⟨rfl, rfl, rfl⟩ := hcs
   exact ⟨[], rfl, Or.inl rfl, Nat.zero_le _, Nat.zero_le _, by simp⟩
 · simp [Value.cells] at hcs
   obtain ⟨rfl, rfl, rfl⟩ := hcs
   have hz' : zs.length = cap := by simpa using hz
   refine ⟨zs.take len, by simp; omega, ?_, by simp; omega, hm, fun n hn => hwz n (List.mem_of_mem_take hn)⟩
   by_cases h0 : len = 0
   · exact Or.inl (by simp [h0])
   · have hc0 := hcell 0 (by omega)
     obtain ⟨b, off, spot⟩ := x
     have hspot : spot = none := by simpa [Addr.add] using World.cell?_spot hc0
     subst hspot
     refine Or.inr ⟨b, off, rfl, fun i hi => ?_⟩
     simp only [List.length_take] at hi
     have hi' : i < len := by omega
     have := hcell i (by omega)
     rw [show (⟨b, off + i, none⟩ : Addr) = (⟨b, off, none⟩ : Addr).add i by simp [Addr.add], this]
     simp [List.getD, hi']
theorem lz {α : Type _} : (∀ (l : List α) (i : Nat) (v : α), l.toArray.setIfInBounds i v = (l.set i v).toArray) ∧ (∀ (x : α) (l : List α) (v : α), (x :: l).set 0 v = v :: l) ∧ (∀ (x : α) (l : List α) (i : Nat) (v : α), (x :: l).set (i + 1) v = x :: l.set i v) := ⟨fun _ _ _ => List.setIfInBounds_toArray .., fun _ _ _ => rfl, fun _ _ _ _ => rfl⟩
theorem lg {α : Type _} : (∀ (l : List α) (i : Nat) (h : i < l.toArray.size), l.toArray[i]'h = l[i]'(by simpa using h)) ∧ (∀ (x : α) (l : List α) (i : Nat) (h : i + 1 < (x :: l).length), (x :: l)[i + 1]'h = l[i]'(by simpa using h)) ∧ (∀ (x : α) (l : List α) (h : 0 < (x :: l).length), (x :: l)[0]'h = x) := ⟨fun _ _ _ => List.getElem_toArray .., fun _ _ _ _ => rfl, fun _ _ _ => rfl⟩
theorem lq {α : Type _} : (∀ (l : List α) (i : Nat), l.toArray[i]? = l[i]?) ∧ (∀ (x : α) (l : List α), (x :: l)[0]? = some x) ∧ (∀ (x : α) (l : List α) (i : Nat), (x :: l)[i + 1]? = l[i]?) := ⟨fun _ _ => List.getElem?_toArray .., fun _ _ => rfl, fun _ _ _ => by simp⟩
end
section
open Go.Lib Go.Proofs
section
set_option maxHeartbeats 1000000 in
theorem mul64_any (x y : Nat) (hx : x < 18446744073709551616) (hy : y < 18446744073709551616) (w : World) :
 Calls Tryz.prog 149 #[.int .u64 x, .int .u64 y] w fun e w' => e = .returned (.tuple #[.int .u64 ((x * y / 18446744073709551616 : Nat) : Int), .int .u64 ((x * y % 18446744073709551616 : Nat) : Int)]) ∧ w = w' := by
 obtain ⟨bd, bt, bw, hhi⟩ := Lib.mul64_hi x y hx hy
 have ba := Lib.half_mul_le (a := x / 4294967296) (b := y / 4294967296) (by omega) (by omega)
 have bb := Lib.half_mul_le (a := x / 4294967296) (b := y % 4294967296) (by omega) (by omega)
 have bc := Lib.half_mul_le (a := x % 4294967296) (b := y / 4294967296) (by omega) (by omega)
 have ba' : x / 4294967296 * (y / 4294967296) < 18446744073709551616 := by omega
 have bb' : x / 4294967296 * (y % 4294967296) < 18446744073709551616 := by omega
 have bc' : x % 4294967296 * (y / 4294967296) < 18446744073709551616 := by omega
 have bh1 : x / 4294967296 * (y / 4294967296) + (x / 4294967296 * (y % 4294967296) + x % 4294967296 * (y % 4294967296) / 4294967296) / 4294967296 < 18446744073709551616 := by omega
 have bh : x / 4294967296 * (y / 4294967296) + (x / 4294967296 * (y % 4294967296) + x % 4294967296 * (y % 4294967296) / 4294967296) / 4294967296 + ((x / 4294967296 * (y % 4294967296) + x % 4294967296 * (y % 4294967296) / 4294967296) % 4294967296 + x % 4294967296 * (y / 4294967296)) / 4294967296 < 18446744073709551616 := by omega
 go_enter Tryz.func149, Tryz.ntmps149
 go_wp2
 simp only [Mul64.maskN x hx, Mul64.maskN y hy, Mul64.divN, Mul64.mulN, Mul64.addN, Mul64.wrapN _ bd, Mul64.wrapN _ bb', Mul64.wrapN _ bt, Mul64.maskN _ bt, Mul64.wrapN _ bc', Mul64.wrapN _ bw, Mul64.wrapN _ ba', Mul64.wrapN _ bh1, Mul64.wrapN _ bh, Mul64.wrapM (x * y)]
 rw [hhi]
 go_ret2
 exact ⟨rfl, rfl⟩
end
end
def MA : Int := 4611686018427387904
def MT : Int := 1099511627776
def amtB (n : Int) : Bool := decide (0 ≤ n ∧ n ≤ MA)
def tickB (n : Int) : Bool := decide (0 ≤ n ∧ n ≤ MT)
set_option maxHeartbeats 400000 in
theorem amount_any (n : Int) (w : World) :
 Calls Tryz.prog 69 #[.int .i64 n] w fun e w' => e = .returned (.bool (amtB n)) ∧ w = w' := by
 go_enter Tryz.func69, Tryz.ntmps69
 go_wp2
 all_goals
  go_ret
  exact ⟨ret_bool (by unfold amtB MA; simp; omega), rfl⟩
set_option maxHeartbeats 400000 in
theorem tick_any (n : Int) (w : World) :
 Calls Tryz.prog 31 #[.int .i64 n] w fun e w' => e = .returned (.bool (tickB n)) ∧ w = w' := by
 go_enter Tryz.func31, Tryz.ntmps31
 go_wp2
 all_goals
  go_ret
  exact ⟨ret_bool (by unfold tickB MT; simp; omega), rfl⟩
def bothB (a b : Int) : Bool := amtB a && amtB b
set_option maxHeartbeats 400000 in
theorem both_any (a b : Int) (w : World) :
 Calls Tryz.prog 127 #[.int .i64 a, .int .i64 b] w fun e w' => e = .returned (.bool (bothB a b)) ∧ w = w' := by
 go_enter Tryz.func127, Tryz.ntmps127
 go_wp2_with (go_at_call 69; refine (amount_any _ _).mono ?_; rintro e w' ⟨rfl, rfl⟩)
 all_goals
  go_ret
  exact ⟨ret_bool (by simp [bothB, *]), rfl⟩
def rightV (n : Int) (m : Bool) : Int := if m then n else 0
def rightE (m : Bool) : Int := if m then 0 else 1
set_option maxHeartbeats 400000 in
theorem right_any (n : Int) (m : Bool) (w : World) :
 Calls Tryz.prog 126 #[.int .i64 n, .bool m] w fun e w' => e = .returned (.tuple #[.int .i64 (rightV n m), .int .i64 (rightE m)]) ∧ w = w' := by
 cases m
 all_goals
  go_enter Tryz.func126, Tryz.ntmps126
  go_wp2
  go_ret2
  exact ⟨rfl, rfl⟩
theorem amt_iff (n : Int) : amtB n = true ↔ 0 ≤ n ∧ n ≤ MA := by simp [amtB]
theorem tick_iff (n : Int) : tickB n = true ↔ 0 ≤ n ∧ n ≤ MT := by simp [tickB]
def addOK (a b : Int) : Bool := bothB a b && amtB (a + b)
def addV (a b : Int) : Int := if addOK a b then a + b else 0
def addE (a b : Int) : Int := if addOK a b then 0 else 1
theorem amt_wrap_add (a b : Int) (ha : amtB a = true) (hb : amtB b = true) : amtB (wrap64 (a + b)) = amtB (a + b) := by
 rw [amt_iff] at ha hb
 rw [Bool.eq_iff_iff, amt_iff, amt_iff]
 unfold MA at *; unfold wrap64; omega
theorem wrap_of_amt (a b : Int) (ha : amtB a = true) (hb : amtB b = true) (h : amtB (a + b) = true) : wrap64 (a + b) = a + b := by
 rw [amt_iff] at ha hb h
 unfold MA at *; unfold wrap64; omega
theorem right_add (a b : Int) (m : Bool) (hm : m = (bothB a b && amtB (wrap64 (a + b)))) : rightV (wrap64 (a + b)) m = addV a b ∧ rightE m = addE a b := by
 subst hm
 unfold rightV rightE addV addE addOK bothB
 cases ha : amtB a <;> cases hb : amtB b <;> simp
 rw [amt_wrap_add a b ha hb]
 cases h : amtB (a + b) <;> simp
 exact wrap_of_amt a b ha hb h
theorem ret_right {n : Int} {m : Bool} {a b : Int} (h : rightV n m = a ∧ rightE m = b) : Ending.returned (.tuple #[.int .i64 (rightV n m), .int .i64 (rightE m)]) = .returned (.tuple #[.int .i64 a, .int .i64 b]) := by rw [h.1, h.2]
set_option maxHeartbeats 400000 in
theorem add_any (a b : Int) (w : World) :
 Calls Tryz.prog 117 #[.int .i64 a, .int .i64 b] w fun e w' => e = .returned (.tuple #[.int .i64 (addV a b), .int .i64 (addE a b)]) ∧ w = w' := by
 go_enter Tryz.func117, Tryz.ntmps117
 go_wp2_with (first | (go_at_call 69; refine (amount_any _ _).mono ?_; rintro e w' ⟨rfl, rfl⟩) | (go_at_call 127; refine (both_any _ _ _).mono ?_; rintro e w' ⟨rfl, rfl⟩) | (go_at_call 126; refine (right_any _ _ _).mono ?_; rintro e w' ⟨rfl, rfl⟩))
 all_goals
  go_ret2
  exact ⟨ret_right (right_add a b _ (by simp [*])), rfl⟩
def sumStep (s : Int × Int) (z : Int) : Int × Int := if s.2 = 0 then (addV s.1 z, addE s.1 z) else s
def sumF (zs : List Int) : Int × Int := zs.foldl sumStep (0, 0)
def sumV (zs : List Int) : Int := (sumF zs).1
def sumE (zs : List Int) : Int := (sumF zs).2
theorem sumF_snoc (zs : List Int) (z : Int) : sumF (zs ++ [z]) = sumStep (sumF zs) z := by simp [sumF]
theorem sum_go (zs : List Int) (k : Nat) (h : k < zs.length) (he : sumE (zs.take k) = 0) : sumV (zs.take (k + 1)) = addV (sumV (zs.take k)) zs[k] ∧ sumE (zs.take (k + 1)) = addE (sumV (zs.take k)) zs[k] := by
 unfold sumV sumE at *
 rw [List.take_succ_eq_append_getElem h, sumF_snoc]; simp [sumStep, he]
theorem foldl_stuck (l : List Int) (s : Int × Int) (h : s.2 ≠ 0) : l.foldl sumStep s = s := by
 induction l with
 | nil => rfl
 | cons z l ih => simp [sumStep, h, ih]
theorem sum_stop (zs : List Int) (k : Nat) (he : sumE (zs.take k) ≠ 0) : sumF zs = sumF (zs.take k) := by
 have : sumF zs = (zs.drop k).foldl sumStep (sumF (zs.take k)) := by
  unfold sumF; rw [← List.foldl_append, List.take_append_drop]
 rw [this, foldl_stuck _ _ he]
theorem addE_cases (a b : Int) : addE a b = 0 ∨ (addE a b = 1 ∧ addV a b = 0) := by
 unfold addE addV; cases addOK a b <;> simp
theorem sumF_bad (zs : List Int) : sumE zs = 0 ∨ (sumE zs = 1 ∧ sumV zs = 0) := by
 unfold sumE sumV
 suffices h : ∀ (l : List Int) (s : Int × Int), (s.2 = 0 ∨ (s.2 = 1 ∧ s.1 = 0)) → ((l.foldl sumStep s).2 = 0 ∨ ((l.foldl sumStep s).2 = 1 ∧ (l.foldl sumStep s).1 = 0)) from h zs (0, 0) (Or.inl rfl)
 intro l
 induction l with
 | nil => intro s h; exact h
 | cons z l ih =>
   intro s h
   apply ih
   unfold sumStep
   split
   · exact addE_cases _ _
   · exact h
set_option maxHeartbeats 400000 in
theorem sum_any (ao : Option Addr) (zs : List Int) (cap : Nat) (w : World) (h : IntsAt .i64 w ao zs) (hm : zs.length ≤ 9223372036854775807) :
 Calls Tryz.prog 93 #[.slice ao zs.length cap] w fun e w' => e = .returned (.tuple #[.int .i64 (sumV zs), .int .i64 (sumE zs)]) ∧ w = w' := by
 go_enter Tryz.func93, Tryz.ntmps93
 go_wp2
 go_loop [4, 5, 6] (fun t e i => ∃ k : Nat, k ≤ zs.length ∧ i = .int .i64 k ∧ t = .int .i64 (sumV (zs.take k)) ∧ e = .int .i64 (sumE (zs.take k))) (fun _ _ i => zs.length - (intOf i).toNat)
 case atStart => exact ⟨0, Nat.zero_le _, rfl, rfl, rfl⟩
 case round =>
  obtain ⟨k, hk, rfl, rfl, rfl⟩ := hrel
  by_cases he : sumE (zs.take k) = 0
  · by_cases hlt : k < zs.length
    · have HS := Lib.hid (sum_go zs k hlt he)
      have he' : (sumE (zs.take k) == 0) = true := by simp [he]
      rcases h with rfl | ⟨b, off, rfl, hc⟩
      · simp at hlt
      have hcell := hc k hlt
      clear hc he
      go_wp2_with (go_at_call 117; refine (add_any _ _ _).mono ?_; rintro e w' ⟨rfl, rfl⟩)
      go_round
      case rel => exact ⟨k + 1, by omega, by go_num, by rw [HS.out.1], by rw [HS.out.2]⟩
      case measure => simp [intOf]; omega
    · have hkk : zs.length ≤ k := by omega
      have HT := Lib.hid (List.take_of_length_le hkk)
      clear he hlt
      go_wp2
      go_ret2
      exact ⟨ret_two (congrArg sumV HT.out) (congrArg sumE HT.out), rfl⟩
  · have HS := Lib.hid (sum_stop zs k he)
    have he' : (sumE (zs.take k) == 0) = false := by simp [he]
    clear he
    by_cases hlt : k < zs.length
    all_goals
     go_wp2
     go_ret2
     exact ⟨ret_two (congrArg Prod.fst HS.out.symm) (congrArg Prod.snd HS.out.symm), rfl⟩
set_option maxHeartbeats 400000 in
theorem ramount_any (n : Int) (w : World) :
 Calls Tryz.prog 78 #[.int .i64 n] w fun e w' => e = .returned (.bool (amtB n)) ∧ w = w' := by
 go_enter Tryz.func78, Tryz.ntmps78
 go_wp2
 all_goals
  go_ret
  exact ⟨ret_bool (by unfold amtB MA; simp; omega), rfl⟩
set_option maxHeartbeats 400000 in
theorem rtick_any (n : Int) (w : World) :
 Calls Tryz.prog 48 #[.int .i64 n] w fun e w' => e = .returned (.bool (tickB n)) ∧ w = w' := by
 go_enter Tryz.func48, Tryz.ntmps48
 go_wp2
 all_goals
  go_ret
  exact ⟨ret_bool (by unfold tickB MT; simp; omega), rfl⟩
theorem addVE (a b : Int) (h : addOK a b = true) : addV a b = a + b ∧ addE a b = 0 := by simp [addV, addE, h]
theorem addVE' (a b : Int) (h : addOK a b = false) : addV a b = 0 ∧ addE a b = 1 := by simp [addV, addE, h]
set_option maxHeartbeats 400000 in
theorem radd_any (a b : Int) (w : World) :
 Calls Tryz.prog 110 #[.int .i64 a, .int .i64 b] w fun e w' => e = .returned (.tuple #[.int .i64 (addV a b), .int .i64 (addE a b)]) ∧ w = w' := by
 by_cases ha : amtB a = true
 · by_cases hb : amtB b = true
   · have hA := (amt_iff a).1 ha
     have hB := (amt_iff b).1 hb
     unfold MA at hA hB
     obtain ⟨hA1, hA2⟩ := hA
     obtain ⟨hB1, hB2⟩ := hB
     by_cases hs : b ≤ 4611686018427387904 - a
     · have HR := Lib.hid (addVE a b (by simp [addOK, bothB, ha, hb]; rw [amt_iff]; unfold MA; omega))
       go_enter Tryz.func110, Tryz.ntmps110
       go_wp2_with (go_at_call 78; refine (ramount_any _ _).mono ?_; rintro e w' ⟨rfl, rfl⟩)
       go_ret2
       exact ⟨ret_two HR.out.1.symm HR.out.2.symm, rfl⟩
     · have HR := Lib.hid (addVE' a b (by simp [addOK, bothB, ha, hb]; rw [← Bool.not_eq_true, amt_iff]; unfold MA; omega))
       go_enter Tryz.func110, Tryz.ntmps110
       go_wp2_with (go_at_call 78; refine (ramount_any _ _).mono ?_; rintro e w' ⟨rfl, rfl⟩)
       go_ret2
       exact ⟨ret_two HR.out.1.symm HR.out.2.symm, rfl⟩
   · simp at hb
     have HR := Lib.hid (addVE' a b (by simp [addOK, bothB, hb]))
     go_enter Tryz.func110, Tryz.ntmps110
     go_wp2_with (go_at_call 78; refine (ramount_any _ _).mono ?_; rintro e w' ⟨rfl, rfl⟩)
     go_ret2
     exact ⟨ret_two HR.out.1.symm HR.out.2.symm, rfl⟩
 · simp at ha
   have HR := Lib.hid (addVE' a b (by simp [addOK, bothB, ha]))
   go_enter Tryz.func110, Tryz.ntmps110
   go_wp2_with (go_at_call 78; refine (ramount_any _ _).mono ?_; rintro e w' ⟨rfl, rfl⟩)
   go_ret2
   exact ⟨ret_two HR.out.1.symm HR.out.2.symm, rfl⟩
theorem addr_add (b off n : Nat) : (⟨b, off, none⟩ : Addr).add n = ⟨b, off + n, none⟩ := by unfold Addr.add; split <;> simp_all
structure Keeps (S : Nat → Prop) (w w' : World) : Prop where
 os : w'.os = w.os
 tape : w'.tape = w.tape
 output : w'.output = w.output
 size : w.heap.size ≤ w'.heap.size
 block : ∀ k, k < w.heap.size → ¬ S k → w'.heap[k]? = w.heap[k]?
theorem Keeps.refl (S : Nat → Prop) (w : World) : Keeps S w w := ⟨rfl, rfl, rfl, Nat.le_refl _, fun _ _ _ => rfl⟩
theorem Keeps.trans {S S' : Nat → Prop} {a b c : World} (h : Keeps S a b) (k : Keeps S' b c) (hs : ∀ i, S' i → S i ∨ a.heap.size ≤ i) : Keeps S a c :=
 ⟨k.os.trans h.os, k.tape.trans h.tape, k.output.trans h.output, Nat.le_trans h.size k.size, fun i hi hn =>
   (k.block i (Nat.lt_of_lt_of_le hi h.size) (fun hS => by rcases hs i hS with h1 | h1; exact hn h1; omega)).trans (h.block i hi hn)⟩
theorem Keeps.mono {S S' : Nat → Prop} {a b : World} (h : Keeps S a b) (hs : ∀ i, i < a.heap.size → S i → S' i) : Keeps S' a b :=
 ⟨h.os, h.tape, h.output, h.size, fun i hi hn => h.block i hi (fun hS => hn (hs i hi hS))⟩
theorem Keeps.drew {S : Nat → Prop} {a w : World} (h : Keeps S a w) : Keeps S a w.drew := ⟨h.os, h.tape, h.output, h.size, h.block⟩
theorem Keeps.drewN {S : Nat → Prop} {a w : World} (h : Keeps S a w) (n : Nat) : Keeps S a (w.drewN n) := ⟨h.os, h.tape, h.output, h.size, h.block⟩
theorem Keeps.alloc {S : Nat → Prop} {a w : World} (h : Keeps S a w) (o : Obj) : Keeps S a (w.alloc o) :=
 h.trans (S' := fun _ => False) ⟨rfl, rfl, rfl, by simp, fun k hk _ => Below.heap_alloc _ _ _ hk⟩ (fun _ hf => hf.elim)
theorem Keeps.setCell {S : Nat → Prop} {a w : World} (h : Keeps S a w) {p : Addr} (hp : S p.block ∨ a.heap.size ≤ p.block) (u : Value) : Keeps S a (w.setCell p u) :=
 h.trans (S' := fun k => k = p.block) ⟨rfl, rfl, rfl, by simp [World.setCell], fun k hk hn => Below.heap_setCell _ _ _ _ hn⟩ (fun i hi => by subst hi; exact hp)
theorem Keeps.grown {S : Nat → Prop} {a w w' : World} {row : Option Nat} (h : Keeps S a w) (hg : w.grownBy w' row) (hr : ∀ k, row = some k → S k ∨ a.heap.size ≤ k) : Keeps S a w' :=
 h.trans (S' := fun k => row = some k) ⟨hg.os, hg.tape, hg.output, hg.size, fun k hk hn => hg.block k hk (fun e => hn e.symm)⟩ hr
theorem Keeps.below {S : Nat → Prop} {a w : World} {B : Nat} (h : Keeps S a w) (hB : B ≤ a.heap.size) (hs : ∀ k, S k → B ≤ k) : Below B a w :=
 ⟨h.os, h.tape, h.output, h.size, fun k hk => h.block k (Nat.lt_of_lt_of_le hk hB) (fun hS => by have := hs k hS; omega)⟩
theorem Keeps.of_below {S : Nat → Prop} {a w : World} (h : Below a.heap.size a w) : Keeps S a w := ⟨h.os, h.tape, h.output, h.size, fun k hk _ => h.block k hk⟩
theorem blk_cell {w : World} {p : Nat} {cs : Array Value} {t : TypeId} {fr : Nat × Nat} (hb : w.heap[p]? = some (.cells cs t fr)) (j : Nat) : w.cell? ⟨p, j, none⟩ = cs[j]? := by
 simp [World.cell?, hb]
theorem blk_frozen {w : World} {p : Nat} {cs : Array Value} {t : TypeId} (hb : w.heap[p]? = some (.cells cs t (0, 0))) (j : Nat) : w.frozen? ⟨p, j, none⟩ = false := by
 simp [World.frozen?, hb]
theorem blk_lt {w : World} {p : Nat} {o : Obj} (hb : w.heap[p]? = some o) : p < w.heap.size := (Array.getElem?_eq_some_iff.1 hb).1
theorem blk_set {w : World} {p : Nat} {cs : Array Value} {t : TypeId} {fr : Nat × Nat} (hb : w.heap[p]? = some (.cells cs t fr)) (j : Nat) (u : Value) :
 (w.setCell ⟨p, j, none⟩ u).heap[p]? = some (.cells (cs.setIfInBounds j u) t fr) := by
 simp only [World.setCell, Array.getElem?_modify, hb]
 simp
theorem ownsRow_same {w w' : World} {base : Nat} {e : TypeId} {size : Nat} {v : Value} {n : Nat} {xs : List Value} (h : w.ownsRow base e size v n xs) (hs : ∀ g, v.ownBlock = some g → w'.heap[g]? = w.heap[g]?) : w'.ownsRow base e size v n xs := by
 refine ⟨h.1, ?_⟩
 rcases h.2 with hn | ⟨g, cap, cur, rfl, hb, hg, rest⟩
 · exact Or.inl hn
 · exact Or.inr ⟨g, cap, cur, rfl, hb, (hs g rfl).trans hg, rest⟩
theorem run_append_any {P : Program} (w : World) (t ty e : TypeId) (i : TypeInfo) (z : Value) (size bytes : Nat) (ht : P.underlying t = some (.slice e)) (hi : P.info? e = some i) (hz : i.zero = some z)
 (hsize : i.size = size) (hby : i.bytes = bytes) (hzs : z.cells.size = size) (hsz : 0 < size)
 (v : Value) (n : Nat) (xs : List Value) (hown : w.ownsRow 0 e size v n xs)
 (sa : Option Addr) (m c : Nat) (news : List Value) (hl : news.length = m * size) (h0 : sa = none → m = 0) (hnews : ∀ ad, sa = some ad → ∀ j u, news[j]? = some u → w.cell? (ad.add j) = some u) (h1 : ∀ u ∈ news, u.oneCell' = true)
 (h63 : n + m ≤ maxLen) (hbytes : (n + m) * bytes ≤ 140737488355328) :
 ∃ ao cap w', (Builtin.append_ #[t, t] ty #[v, .slice sa m c]).run P w = .ok (.slice ao (n + m) cap) w' ∧ w'.ownsRow 0 e size (.slice ao (n + m) cap) (n + m) (xs ++ news) ∧ w.grownBy w' v.ownBlock ∧
  (∀ g, (Value.slice ao (n + m) cap).ownBlock = some g → v.ownBlock = some g ∨ g = w.heap.size) ∧ (ao = none → n + m = 0) := by
 cases sa with
 | some ad =>
   obtain ⟨v', w', hr, h2, h3, _, h5⟩ := run_append_own_at (P := P) w 0 t ty e i z size bytes ht hi hz hsize hby hzs hsz v n xs hown ad m c news hl (hnews ad rfl) h1 h63 hbytes (Nat.zero_le _)
   have hf : ∃ ao cap, v' = .slice ao (n + m) cap ∧ (ao = none → n + m = 0) := by
    rcases h2.2 with ⟨hv, hn⟩ | ⟨g, cap, cur, hv, _⟩
    · exact ⟨none, 0, by rw [hv, hn], fun _ => hn⟩
    · exact ⟨_, cap, hv, fun e => by cases e⟩
   obtain ⟨ao, cap, rfl, hnn⟩ := hf
   refine ⟨ao, cap, w', hr, h2, h3, fun g hg => ?_, hnn⟩
   rcases h5 with h5 | h5
   · exact Or.inl (h5 ▸ hg)
   · rw [h5] at hg; cases hg; exact Or.inr rfl
 | none =>
   have hm := h0 rfl
   subst hm
   have hn : news = [] := List.eq_nil_of_length_eq_zero (by simpa using hl)
   subst hn
   have hf : ∃ ao cap, v = .slice ao (n + 0) cap ∧ (ao = none → n + 0 = 0) ∧ (n ≤ cap) := by
    rcases hown.2 with ⟨hv, hn⟩ | ⟨g, cap, cur, hv, _, _, hc, _⟩
    · exact ⟨none, 0, by rw [hv, hn], fun _ => hn, by omega⟩
    · exact ⟨_, cap, hv, fun e => by (cases e), hc⟩
   obtain ⟨ao, cap, hv, hnn, hc⟩ := hf
   refine ⟨ao, cap, w, ?_, by rw [← hv]; simpa using hown, ⟨rfl, rfl, rfl, Nat.le_refl _, fun _ _ _ => rfl⟩, fun g hg => Or.inl (by rw [hv]; exact hg), hnn⟩
   rw [hv]
   simp only [Nat.add_zero]
   have hsx : Src P i.size t (.slice none 0 c) 0 [] w := Src.ofNil (e' := e) w ht c
   rcases hown.2 with ⟨hv', hn'⟩ | ⟨g, cap', cur, hv', _, hg, hc', _⟩
   · rw [hv] at hv'; simp only [Value.slice.injEq] at hv'
     obtain ⟨rfl, _, rfl⟩ := hv'
     subst hn'
     simp [Builtin.append_, run_underlying ht, sizeOf, typeInfo, hi, Builtin.lenOf, Builtin.firstCells]
   · rw [hv] at hv'; simp only [Value.slice.injEq] at hv'
     obtain ⟨rfl, _, rfl⟩ := hv'
     have hr := run_append_room_src (P := P) w t t ty e i ht hi g 0 n cap (.slice none 0 c) 0 [] hsx (by omega) (by simp) (by simp)
     simpa [World.setCells] using hr
theorem wp_append_any {P : Program} {w : World} {o : Oper} {a : Act} {K : Act → World → Prop} {Q : Exit → Act → World → Prop} (s x : Operand) (t : TypeId)
 (ho : o.op = .call { callee := .builtin .append, args := #[s, x], argTypes := #[t, t] })
 (e : TypeId) (i : TypeInfo) (z : Value) (size bytes : Nat) (ht : P.underlying t = some (.slice e)) (hi : P.info? e = some i) (hz : i.zero = some z)
 (hsize : i.size = size) (hby : i.bytes = bytes) (hzs : z.cells.size = size) (hsz : 0 < size)
 (v : Value) (n : Nat) (xs : List Value) (hs : a.eval s = v) (hown : w.ownsRow 0 e size v n xs)
 (sa : Option Addr) (m c : Nat) (news : List Value) (hx : a.eval x = .slice sa m c) (hl : news.length = m * size) (h0 : sa = none → m = 0) (hnews : ∀ ad, sa = some ad → ∀ j u, news[j]? = some u → w.cell? (ad.add j) = some u) (h1 : ∀ u ∈ news, u.oneCell' = true)
 (h63 : n + m ≤ maxLen) (hbytes : (n + m) * bytes ≤ 140737488355328)
 (h : ∀ ao cap w', w'.ownsRow 0 e size (.slice ao (n + m) cap) (n + m) (xs ++ news) → w.grownBy w' v.ownBlock → (∀ g, (Value.slice ao (n + m) cap).ownBlock = some g → v.ownBlock = some g ∨ g = w.heap.size) → (ao = none → n + m = 0) → K (a.put o.dst (.slice ao (n + m) cap)) w') : o.wp P a w K Q := by
 obtain ⟨ao, cap, w', hr, h2, h3, h4, h5⟩ := run_append_any (P := P) w t o.type e i z size bytes ht hi hz hsize hby hzs hsz v n xs hown sa m c news hl h0 hnews h1 h63 hbytes
 unfold Oper.wp execOp
 simp only [ho, resolve, invoke, builtin, Sem.run_bind, Sem.run_pure, Result.andThen_ok, List.map_toArray, List.map_cons, List.map_nil, hs, hx, hr]
 exact h ao cap w' h2 h3 h4 h5
theorem wpList_append_any {P : Program} {w : World} {ops : Array Oper} {rest : List Oper} {o : Oper} {a : Act} {Q : Exit → Act → World → Prop} (hgd : o.guard = none) (s x : Operand) (t : TypeId)
 (ho : o.op = .call { callee := .builtin .append, args := #[s, x], argTypes := #[t, t] })
 (e : TypeId) (i : TypeInfo) (z : Value) (size bytes : Nat) (ht : P.underlying t = some (.slice e)) (hi : P.info? e = some i) (hz : i.zero = some z)
 (hsize : i.size = size) (hby : i.bytes = bytes) (hzs : z.cells.size = size) (hsz : 0 < size)
 (v : Value) (n : Nat) (xs : List Value) (hs : a.eval s = v) (hown : w.ownsRow 0 e size v n xs)
 (sa : Option Addr) (m c : Nat) (news : List Value) (hx : a.eval x = .slice sa m c) (hl : news.length = m * size) (h0 : sa = none → m = 0) (hnews : ∀ ad, sa = some ad → ∀ j u, news[j]? = some u → w.cell? (ad.add j) = some u) (h1 : ∀ u ∈ news, u.oneCell' = true)
 (h63 : n + m ≤ maxLen) (hbytes : (n + m) * bytes ≤ 140737488355328)
 (h : ∀ ao cap w', w'.ownsRow 0 e size (.slice ao (n + m) cap) (n + m) (xs ++ news) → w.grownBy w' v.ownBlock → (∀ g, (Value.slice ao (n + m) cap).ownBlock = some g → v.ownBlock = some g ∨ g = w.heap.size) → (ao = none → n + m = 0) → wpList P ops Q rest (a.put o.dst (.slice ao (n + m) cap)) w') : wpList P ops Q (o :: rest) a w :=
 wpList_plain hgd fun _ hK => wp_append_any s x t ho e i z size bytes ht hi hz hsize hby hzs hsz v n xs hs hown sa m c news hx hl h0 hnews h1 h63 hbytes fun ao cap w' h2 h3 h4 h5 => hK _ _ (h ao cap w' h2 h3 h4 h5)
theorem step_append_any {P : Program} {w : World} {ops : Array Oper} {o : Oper} {a : Act} {K : Act → World → Prop} {Q : Exit → Act → World → Prop} {E : Prop} (hgd : o.guard = none) (s x : Operand) (t : TypeId)
 (ho : o.op = .call { callee := .builtin .append, args := #[s, x], argTypes := #[t, t] })
 (e : TypeId) (i : TypeInfo) (z : Value) (size bytes : Nat) (ht : P.underlying t = some (.slice e)) (hi : P.info? e = some i) (hz : i.zero = some z)
 (hsize : i.size = size) (hby : i.bytes = bytes) (hzs : z.cells.size = size) (hsz : 0 < size)
 (v : Value) (n : Nat) (xs : List Value) (hs : a.eval s = v) (hown : w.ownsRow 0 e size v n xs)
 (sa : Option Addr) (m c : Nat) (news : List Value) (hx : a.eval x = .slice sa m c) (hl : news.length = m * size) (h0 : sa = none → m = 0) (hnews : ∀ ad, sa = some ad → ∀ j u, news[j]? = some u → w.cell? (ad.add j) = some u) (h1 : ∀ u ∈ news, u.oneCell' = true)
 (h63 : n + m ≤ maxLen) (hbytes : (n + m) * bytes ≤ 140737488355328)
 (h : ∀ ao cap w', w'.ownsRow 0 e size (.slice ao (n + m) cap) (n + m) (xs ++ news) → w.grownBy w' v.ownBlock → (∀ g, (Value.slice ao (n + m) cap).ownBlock = some g → v.ownBlock = some g ∨ g = w.heap.size) → (ao = none → n + m = 0) → K (a.put o.dst (.slice ao (n + m) cap)) w') :
 if Region.wanted o (yielded ops a.tmps) = true then Oper.wp P o a w K Q else E := by
 have hw : Region.wanted o (yielded ops a.tmps) = true := by simp [Region.wanted, hgd]
 rw [if_pos hw]
 exact wp_append_any s x t ho e i z size bytes ht hi hz hsize hby hzs hsz v n xs hs hown sa m c news hx hl h0 hnews h1 h63 hbytes h
theorem src_ints {k : IntKind} {w : World} {ao : Option Addr} {zs : List Int} (h : IntsAt k w ao zs) : ∀ ad, ao = some ad → ∀ j u, (zs.map (Value.int k))[j]? = some u → w.cell? (ad.add j) = some u := by
 intro ad had j u hu
 rcases h with rfl | ⟨b, off, rfl, hc⟩
 · simp at hu
 · cases had
   have hj : j < zs.length := by
    have := (List.getElem?_eq_some_iff.1 hu).1; simpa using this
   rw [addr_add, hc j hj]
   simp [List.getElem?_eq_getElem hj] at hu
   subst hu
   simp [List.getD, hj]
theorem ints_one (k : IntKind) (zs : List Int) : ∀ u ∈ zs.map (Value.int k), u.oneCell' = true := by
 intro u hu
 obtain ⟨z, _, rfl⟩ := List.mem_map.1 hu
 rfl
theorem ints_none {k : IntKind} {w : World} {zs : List Int} (h : IntsAt k w none zs) : zs.length = 0 := by
 rcases h with rfl | ⟨b, off, h, _⟩
 · rfl
 · cases h
def EncAt (T : TypeId) (w : World) (p : Nat) (v : Value) (bs : List Int) (e : Int) : Prop :=
 w.heap[p]? = some (.cells #[v, .int .i64 e] T (0, 0)) ∧ w.ownsRow 0 5 1 v bs.length (bs.map (Value.int .u8)) ∧ v.ownBlock ≠ some p
def fpE (p : Nat) (v : Value) (k : Nat) : Prop := k = p ∨ v.ownBlock = some k
def EncPost (T : TypeId) (w : World) (p : Nat) (v : Value) (bs : List Int) (e : Int) (w' : World) : Prop :=
 ∃ v', EncAt T w' p v' bs e ∧ Keeps (fpE p v) w w' ∧ (∀ g, v'.ownBlock = some g → v.ownBlock = some g ∨ w.heap.size ≤ g)
def RowAt (w0 : World) (v : Value) (zs : List Int) (w : World) : Prop :=
 w.ownsRow 0 5 1 v zs.length (zs.map (Value.int .u8)) ∧ Below w0.heap.size w0 w ∧ (∀ g, v.ownBlock = some g → w0.heap.size ≤ g)
def RowPost (w : World) (zs : List Int) (e : Ending) (w' : World) : Prop :=
 ∃ ao cap, e = .returned (.slice ao zs.length cap) ∧ RowAt w (.slice ao zs.length cap) zs w'
def RowPost2 (w : World) (zs : List Int) (er : Int) (e : Ending) (w' : World) : Prop :=
 ∃ ao cap, e = .returned (.tuple #[.slice ao zs.length cap, .int .i64 er]) ∧ RowAt w (.slice ao zs.length cap) zs w'
theorem EncAt.lt {T : TypeId} {w : World} {p : Nat} {v : Value} {bs : List Int} {e : Int} (h : EncAt T w p v bs e) : ∀ k, fpE p v k → k < w.heap.size := by
 rintro k (rfl | hk)
 · exact blk_lt h.1
 · exact (h.2.1.lt k hk).2
theorem EncAt.keep {T : TypeId} {w w' : World} {p : Nat} {v : Value} {bs : List Int} {e : Int} {S : Nat → Prop} (h : EncAt T w p v bs e) (hk : Keeps S w w') (hs : ∀ k, fpE p v k → ¬ S k) : EncAt T w' p v bs e :=
 ⟨(hk.block p (h.lt p (Or.inl rfl)) (hs p (Or.inl rfl))).trans h.1, ownsRow_same h.2.1 (fun g hg => hk.block g (h.lt g (Or.inr hg)) (hs g (Or.inr hg))), h.2.2⟩
theorem owns_at {w : World} {base : Nat} {e : TypeId} {k : IntKind} {ao : Option Addr} {n cap : Nat} {zs : List Int} (h : w.ownsRow base e 1 (.slice ao n cap) n (zs.map (Value.int k))) : zs.length = n ∧ IntsAt k w ao zs ∧ n ≤ cap ∧ cap ≤ maxLen := by
 have hl := h.1
 simp at hl
 rcases h.2 with ⟨hv, hn⟩ | ⟨g, cap', cur, hv, _, hh, hn, hm, hs, ht⟩
 · simp only [Value.slice.injEq] at hv
   obtain ⟨rfl, rfl, rfl⟩ := hv
   exact ⟨hl, Or.inl (List.length_eq_zero_iff.1 hl), by omega, by unfold maxLen; omega⟩
 · simp only [Value.slice.injEq] at hv
   obtain ⟨rfl, _, rfl⟩ := hv
   refine ⟨hl, Or.inr ⟨g, 0, rfl, fun i hi => ?_⟩, hn, hm⟩
   have := h.cells (g := g) rfl i (.int k (zs.getD i 0)) (by simp [List.getD, hi])
   rwa [addr_add] at this
theorem IntsAt.same {k : IntKind} {w w' : World} {ao : Option Addr} {zs : List Int} (h : IntsAt k w ao zs) (hs : ∀ a, ao = some a → a.block < w.heap.size → w'.heap[a.block]? = w.heap[a.block]?) : IntsAt k w' ao zs := by
 rcases h with rfl | ⟨b, off, rfl, hc⟩
 · exact Or.inl rfl
 · refine Or.inr ⟨b, off, rfl, fun i hi => ?_⟩
   have hl := World.block_lt_of_cell? w _ (hc i hi)
   exact (World.cell?_of_block (a := ⟨b, off + i, none⟩) (hs ⟨b, off, none⟩ rfl hl)).trans (hc i hi)
theorem ints_below {k : IntKind} {w w' : World} {ao : Option Addr} {zs : List Int} (h : IntsAt k w ao zs) (hb : Below w.heap.size w w') : IntsAt k w' ao zs := h.same (fun a _ hl => hb.block _ hl)
theorem ret_val {a b : Value} (h : a = b) : Ending.returned a = .returned b := by rw [h]
theorem IntsAt.lt {k : IntKind} {w : World} {a : Addr} {zs : List Int} (h : IntsAt k w (some a) zs) (h0 : zs ≠ []) : a.block < w.heap.size := by
 rcases h with rfl | ⟨b, off, he, hc⟩
 · exact (h0 rfl).elim
 · cases he
   have : 0 < zs.length := List.length_pos_iff.2 h0
   exact World.block_lt_of_cell? w _ (hc 0 this)
theorem enc_app {T : TypeId} {wr wa w1 : World} {p : Nat} {v : Value} {bs zs : List Int} {e : Int} {ao : Option Addr} {N cap : Nat}
 (h : EncAt T wr p v bs e) (hwa : Keeps (fun _ => False) wr wa)
 (hown : w1.ownsRow 0 5 1 (.slice ao N cap) N ((bs ++ zs).map (Value.int .u8))) (hgrow : wa.grownBy w1 v.ownBlock) (hat : ∀ g, (Value.slice ao N cap).ownBlock = some g → v.ownBlock = some g ∨ wr.heap.size ≤ g) :
 EncPost T wr p v (bs ++ zs) e (w1.setCell ⟨p, 0, none⟩ (.slice ao N cap)) := by
 have hpl := blk_lt h.1
 have hgp : ∀ g, (Value.slice ao N cap).ownBlock = some g → g ≠ p := by
  intro g hg e'
  rcases hat g hg with e | e
  · exact h.2.2 (by rw [e, e'])
  · omega
 have hpb : w1.heap[p]? = some (.cells #[v, .int .i64 e] T (0, 0)) := by
  rw [hgrow.block p (by have := hwa.size; omega) (fun e => h.2.2 e.symm), hwa.block p hpl (fun f => f)]; exact h.1
 have hkw : Keeps (fpE p v) wr w1 := (hwa.mono (fun _ _ f => f.elim)).grown hgrow (fun k hk' => Or.inl (Or.inr hk'))
 have hN : (bs ++ zs).length = N := (owns_at hown).1
 refine ⟨_, ⟨?_, ?_, fun hx => hgp p hx rfl⟩, hkw.setCell (Or.inl (Or.inl rfl)) _, hat⟩
 · have := blk_set hpb 0 (.slice ao N cap)
   simpa using this
 · rw [hN]
   exact ownsRow_same hown (fun g' hg' => Below.heap_setCell _ _ _ _ (hgp g' hg'))
theorem EncPost.trans {T : TypeId} {w w1 w2 : World} {p : Nat} {v v1 : Value} {bs : List Int} {e : Int} (hK : Keeps (fpE p v) w w1) (hF : ∀ g, v1.ownBlock = some g → v.ownBlock = some g ∨ w.heap.size ≤ g) (h : EncPost T w1 p v1 bs e w2) : EncPost T w p v bs e w2 := by
 obtain ⟨v2, h1, h2, h3⟩ := h
 refine ⟨v2, h1, hK.trans h2 ?_, fun g hg => ?_⟩
 · rintro i (hi | hi)
   · exact Or.inl (Or.inl hi)
   · rcases hF i hi with h | h
     · exact Or.inl (Or.inr h)
     · exact Or.inr h
 · rcases h3 g hg with h | h
   · exact hF g h
   · exact Or.inr (Nat.le_trans hK.size h)
theorem EncPost.refl {T : TypeId} {w : World} {p : Nat} {v : Value} {bs : List Int} {e : Int} (h : EncAt T w p v bs e) : EncPost T w p v bs e w := ⟨v, h, Keeps.refl _ _, fun _ h => Or.inl h⟩
theorem enc_err {T : TypeId} {w : World} {p : Nat} {v : Value} {bs : List Int} {e : Int} (h : EncAt T w p v bs e) (e' : Int) : EncPost T w p v bs e' (w.setCell ⟨p, 1, none⟩ (.int .i64 e')) := by
 obtain ⟨hp, hown, hne⟩ := h
 exact ⟨v, ⟨by simpa using blk_set hp 1 (.int .i64 e'), ownsRow_same hown (fun g hg => Below.heap_setCell _ _ _ _ (fun e => hne (by rw [hg, e]))), hne⟩, (Keeps.refl _ _).setCell (Or.inl (Or.inl rfl)) _, fun _ h => Or.inl h⟩
section
open Go.ChangeShapes Go.WideShapes Go.ChangeAt Go.Deep
structure ISl where
 ao : Option Addr
 zs : List Int
 cap : Nat
def ISl.val (b : ISl) : Value := .slice b.ao b.zs.length b.cap
def InI (zs : List Int) : Prop := ∀ z ∈ zs, -9223372036854775808 ≤ z ∧ z ≤ 9223372036854775807
def ISl.ok (w : World) (b : ISl) : Prop := IntsAt .i64 w b.ao b.zs ∧ InI b.zs ∧ b.zs.length ≤ b.cap ∧ b.cap ≤ maxLen
def IntsList (w : World) (ao : Option Addr) (bs : List ISl) : Prop :=
 (bs = [] ∨ ∃ b off, ao = some ⟨b, off, none⟩ ∧ ∀ i (h : i < bs.length), w.cell? ⟨b, off + i, none⟩ = some bs[i].val) ∧ ∀ x ∈ bs, x.ok w
instance : Inhabited ISl := ⟨⟨none, [], 0⟩⟩
theorem ISl.ok.below {w w' : World} {b : ISl} (h : b.ok w) (hb : Below w.heap.size w w') : b.ok w' := ⟨ints_below h.1 hb, h.2⟩
theorem IntsList.below {w w' : World} {ao : Option Addr} {bs : List ISl} (h : IntsList w ao bs) (hb : Below w.heap.size w w') : IntsList w' ao bs := by
 refine ⟨?_, fun x hx => (h.2 x hx).below hb⟩
 rcases h.1 with h | ⟨b, off, h1, h2⟩
 · exact Or.inl h
 · exact Or.inr ⟨b, off, h1, fun i hi => by
    have hl := World.block_lt_of_cell? w _ (h2 i hi)
    rw [hb.cell (p := ⟨b, off + i, none⟩) hl]; exact h2 i hi⟩
theorem il_cell {w : World} {ao : Option Addr} {bs : List ISl} (h : IntsList w ao bs) (i : Nat) (hi : i < bs.length) : ∃ b off, ao = some ⟨b, off, none⟩ ∧ w.cell? ⟨b, off + i, none⟩ = some (.slice bs[i].ao bs[i].zs.length bs[i].cap) := by
 rcases h.1 with h | ⟨b, off, h1, h2⟩
 · rw [h] at hi; simp at hi
 · exact ⟨b, off, h1, h2 i hi⟩
theorem il_ok {w : World} {ao : Option Addr} {bs : List ISl} (h : IntsList w ao bs) (i : Nat) (hi : i < bs.length) : bs[i].ok w := h.2 _ (List.getElem_mem hi)
theorem inI_of_wf {zs : List Int} (h : ∀ n ∈ zs, (Lit.int .i64 n).wf = true) : InI zs := fun z hz => by
 have := h z hz
 simp [Lit.wf] at this
 exact this
section
variable {H : Type} {enc : TypeId × Value → H} {P : Program} {W : World}
theorem isl_of {t e : TypeId} {fuel : Nat} {v : Value} {x : DataW H × List MemPlace} (ht : P.underlying t = some (.slice e)) (he : P.underlying e = some (.int .i64)) (hc : P.cellsOf e = 1)
 (h : DataW.trod enc P W 0 (fun _ => true) true fuel t [v] = some x) : ∃ b : ISl, v = b.val ∧ b.ok W := by
 have h' : DataW.Trod enc P W 0 (fun _ => true) true t v x.1 x.2 := by
  refine ⟨fuel, ?_⟩
  have hv : v.cells.toList = [v] := by
   rcases open_ints ht he hc h with ⟨hcs, _⟩ | ⟨a, l, c, zs, hcs, _⟩
   · simp at hcs; subst hcs; rfl
   · simp at hcs; subst hcs; rfl
  rw [hv]; exact h
 obtain ⟨ao, len, cap, rfl⟩ : ∃ ao len cap, v = .slice ao len cap := by
  rcases open_ints ht he hc h with ⟨hcs, _⟩ | ⟨a, l, c, zs, hcs, _⟩
  · simp at hcs; exact ⟨_, _, _, hcs⟩
  · simp at hcs; exact ⟨_, _, _, hcs⟩
 obtain ⟨zs, rfl, h1, h2, h3, h4⟩ := ints_of ht he hc h'
 exact ⟨⟨ao, zs, cap⟩, rfl, h1, inI_of_wf h4, h2, h3⟩
theorem ilists_of {t e u : TypeId} {ao : Option Addr} {len cap : Nat} {d : DataW H} {p : List MemPlace} (ht : P.underlying t = some (.slice e)) (hce : P.cellsOf e = 1) (he : P.underlying e = some (.slice u)) (hu : P.underlying u = some (.int .i64)) (hc : P.cellsOf u = 1)
 (h : DataW.Trod enc P W 0 (fun _ => true) true t (.slice ao len cap) d p) :
 ∃ bs : List ISl, len = bs.length ∧ IntsList W ao bs ∧ len ≤ cap ∧ cap ≤ maxLen := by
 obtain ⟨fuel, hf⟩ := h
 rcases open_slice1 ht hce hf with ⟨hcs, _⟩ | ⟨a, l, c, m, n, V, D, Pl, hcs, _, hl, hm, hmm, _, hx⟩
 · simp [Value.cells] at hcs
   obtain ⟨rfl, rfl, rfl⟩ := hcs
   exact ⟨[], rfl, ⟨Or.inl rfl, by simp⟩, Nat.le_refl _, Nat.zero_le _⟩
 · simp [Value.cells] at hcs
   obtain ⟨rfl, rfl, rfl⟩ := hcs
   have hmc : m = cap := by simpa using hmm
   obtain ⟨X, hX⟩ := choose_lt (α := ISl) (p := fun i b => V i = b.val ∧ b.ok W) (fun i hi => isl_of he hu hc (hx i hi).2)
   refine ⟨(List.range len).map X, by simp, ⟨?_, ?_⟩, hl, hm⟩
   · by_cases h0 : len = 0
     · exact Or.inl (by simp [h0])
     · have hc0 := (hx 0 (by omega)).1
       obtain ⟨b, off, spot⟩ := a
       have hspot : spot = none := by simpa [Addr.add] using World.cell?_spot hc0
       subst hspot
       refine Or.inr ⟨b, off, rfl, fun i hi => ?_⟩
       simp at hi
       have h1 := (hx i (by omega)).1
       rw [addr_add] at h1
       rw [h1, (hX i (by omega)).1]
       simp
   · intro x hx'
     simp only [List.mem_map, List.mem_range] at hx'
     obtain ⟨i, hi, rfl⟩ := hx'
     exact (hX i (by omega)).2
end
end
def tot (b : Nat → Nat → Int) (j : Nat) : Nat → Int
 | 0 => 0
 | k + 1 => tot b j k + b k j
structure Good (n m : Nat) (b : Nat → Nat → Int) : Prop where
 n2 : 2 ≤ n
 n16 : n ≤ 16
 m1 : 1 ≤ m
 m4 : m ≤ 4
 pos : ∀ i, i < n → ∀ j, j < m → 0 ≤ b i j
 sum : ∀ j, j < m → tot b j n ≤ 4611686018427387904
def hasB (n m : Nat) (a j : Int) : Bool := decide (0 ≤ a ∧ a < n ∧ 0 ≤ j ∧ j < m)
def getB (n m : Nat) (b : Nat → Nat → Int) (a j : Int) : Int := if hasB n m a j = true then b a.toNat j.toNat else 0
def partB (m : Nat) (b : Nat → Nat → Int) (j : Int) (k : Nat) : Int := if 0 ≤ j ∧ j < m then tot b j.toNat k else 0
def totB (n m : Nat) (b : Nat → Nat → Int) (j : Int) : Int := partB m b j n
def upd (b : Nat → Nat → Int) (a j : Nat) (v : Int) : Nat → Nat → Int := fun i k => if i = a ∧ k = j then v else b i k
def giveOK (n m : Nat) (b : Nat → Nat → Int) (a j x : Int) : Bool := hasB n m a j && addOK (totB n m b j) x
def giveE (n m : Nat) (b : Nat → Nat → Int) (a j x : Int) : Int := if giveOK n m b a j x = true then 0 else 1
def giveN (n m : Nat) (b : Nat → Nat → Int) (a j x : Int) : Nat → Nat → Int := if giveOK n m b a j x = true then upd b a.toNat j.toNat (b a.toNat j.toNat + x) else b
def takeE (n m : Nat) (b : Nat → Nat → Int) (a j x : Int) : Int := if (hasB n m a j && amtB x) = true then (if b a.toNat j.toNat < x then 7 else 0) else 1
def takeN (n m : Nat) (b : Nat → Nat → Int) (a j x : Int) : Nat → Nat → Int := if takeE n m b a j x = 0 then upd b a.toNat j.toNat (b a.toNat j.toNat - x) else b
def moveE (n m : Nat) (b : Nat → Nat → Int) (f t j x : Int) : Int := if (hasB n m f j && hasB n m t j && amtB x) = true then (if f = t then 14 else if b f.toNat j.toNat < x then 7 else 0) else 1
def moveN (n m : Nat) (b : Nat → Nat → Int) (f t j x : Int) : Nat → Nat → Int :=
 if moveE n m b f t j x = 0 then upd (upd b f.toNat j.toNat (b f.toNat j.toNat - x)) t.toNat j.toNat (b t.toNat j.toNat + x) else b
theorem tot_congr {b b' : Nat → Nat → Int} {j : Nat} : ∀ {n : Nat}, (∀ i, i < n → b i j = b' i j) → tot b j n = tot b' j n
 | 0, _ => rfl
 | n + 1, h => by rw [tot, tot, tot_congr (fun i hi => h i (by omega)), h n (by omega)]
theorem tot_nonneg {b : Nat → Nat → Int} {j : Nat} : ∀ {n : Nat}, (∀ i, i < n → 0 ≤ b i j) → 0 ≤ tot b j n
 | 0, _ => Int.le_refl _
 | n + 1, h => by have := tot_nonneg (n := n) (fun i hi => h i (by omega)); have := h n (by omega); rw [tot]; omega
theorem tot_mono {b : Nat → Nat → Int} {j : Nat} {n : Nat} (h : ∀ i, i < n → 0 ≤ b i j) : ∀ {k : Nat}, k ≤ n → tot b j k ≤ tot b j n := by
 induction n with
 | zero => intro k hk; obtain rfl : k = 0 := by omega
           exact Int.le_refl _
 | succ n ih =>
   intro k hk
   by_cases e : k = n + 1
   · subst e; exact Int.le_refl _
   · have := ih (fun i hi => h i (by omega)) (k := k) (by omega); have := h n (by omega); rw [tot]; omega
theorem tot_at {b : Nat → Nat → Int} {j : Nat} {n : Nat} (h : ∀ i, i < n → 0 ≤ b i j) {a : Nat} (ha : a < n) : b a j ≤ tot b j n := by
 have h1 := tot_mono h (k := a + 1) (by omega)
 have h2 := tot_nonneg (b := b) (j := j) (n := a) (fun i hi => h i (by omega))
 rw [tot] at h1; omega
theorem tot_upd_far {b : Nat → Nat → Int} {a j k : Nat} {v : Int} {n : Nat} (h : n ≤ a ∨ k ≠ j) : tot (upd b a j v) k n = tot b k n :=
 tot_congr (fun i hi => by unfold upd; rw [if_neg]; omega)
theorem tot_upd {b : Nat → Nat → Int} {a j : Nat} {v : Int} : ∀ {n : Nat}, a < n → tot (upd b a j v) j n = tot b j n - b a j + v
 | 0, h => by omega
 | n + 1, h => by
   by_cases e : a = n
   · subst e
     rw [tot, tot, tot_upd_far (Or.inl (Nat.le_refl _))]
     simp [upd]
   · rw [tot, tot, tot_upd (n := n) (by omega)]
     have : upd b a j v n j = b n j := by unfold upd; rw [if_neg]; omega
     rw [this]; omega
theorem hasB_iff {n m : Nat} {a j : Int} : hasB n m a j = true ↔ 0 ≤ a ∧ a < n ∧ 0 ≤ j ∧ j < m := by simp [hasB]
theorem upd_at (b : Nat → Nat → Int) (a j : Nat) (v : Int) : upd b a j v a j = v := by simp [upd]
theorem upd_row {b : Nat → Nat → Int} {a j i k : Nat} {v : Int} (h : i ≠ a ∨ k ≠ j) : upd b a j v i k = b i k := by unfold upd; rw [if_neg]; omega
theorem Good.upd {n m : Nat} {b : Nat → Nat → Int} (h : Good n m b) {a j : Nat} {v : Int} (ha : a < n) (hj : j < m) (hv : 0 ≤ v) (hs : tot b j n - b a j + v ≤ 4611686018427387904) : Good n m (upd b a j v) := by
 refine ⟨h.n2, h.n16, h.m1, h.m4, fun i hi k hk => ?_, fun k hk => ?_⟩
 · unfold Proofs.YtkaciaehlibidaaGreat.upd; split
   · exact hv
   · exact h.pos i hi k hk
 · by_cases e : k = j
   · subst e; rw [tot_upd ha]; exact hs
   · rw [tot_upd_far (Or.inr e)]; exact h.sum k hk
theorem Good.cell {n m : Nat} {b : Nat → Nat → Int} (h : Good n m b) {a j : Nat} (ha : a < n) (hj : j < m) : 0 ≤ b a j ∧ b a j ≤ tot b j n ∧ tot b j n ≤ 4611686018427387904 :=
 ⟨h.pos a ha j hj, tot_at (fun i hi => h.pos i hi j hj) ha, h.sum j hj⟩
theorem Good.two {n m : Nat} {b : Nat → Nat → Int} (h : Good n m b) {a c j : Nat} (ha : a < n) (hc : c < n) (hj : j < m) (hne : a ≠ c) : b a j + b c j ≤ 4611686018427387904 := by
 have h0 := h.cell ha hj
 have h1 := (h.upd (v := 0) ha hj (Int.le_refl _) (by omega)).cell hc hj
 rw [upd_row (Or.inl (Ne.symm hne)), tot_upd ha] at h1
 omega
theorem Good.part {n m : Nat} {b : Nat → Nat → Int} (h : Good n m b) (j : Int) {k : Nat} (hk : k ≤ n) : 0 ≤ partB m b j k ∧ partB m b j k ≤ 4611686018427387904 := by
 unfold partB
 split
 · rename_i hj
   have := tot_mono (b := b) (j := j.toNat) (n := n) (fun i hi => h.pos i hi _ (by omega)) hk
   have := tot_nonneg (b := b) (j := j.toNat) (n := k) (fun i hi => h.pos i (by omega) _ (by omega))
   have := h.sum j.toNat (by omega)
   omega
 · omega
theorem part_succ {n m : Nat} {b : Nat → Nat → Int} (j : Int) {k : Nat} (hk : k < n) : partB m b j (k + 1) = partB m b j k + getB n m b k j := by
 unfold partB getB
 by_cases hj : 0 ≤ j ∧ j < m
 · rw [if_pos hj, if_pos hj, if_pos (hasB_iff.2 ⟨by omega, by omega, hj.1, hj.2⟩), tot, Int.toNat_natCast]
 · rw [if_neg hj, if_neg hj, if_neg (fun h => hj ⟨(hasB_iff.1 h).2.2.1, (hasB_iff.1 h).2.2.2⟩)]; rfl
theorem give_ok {n m : Nat} {b : Nat → Nat → Int} {a j x : Int} (h : giveOK n m b a j x = true) : 0 ≤ a ∧ a < n ∧ 0 ≤ j ∧ j < m ∧ 0 ≤ x ∧ tot b j.toNat n + x ≤ 4611686018427387904 := by
 simp only [giveOK, Bool.and_eq_true, addOK, bothB] at h
 obtain ⟨h1, ⟨h2, h3⟩, h4⟩ := h
 have h1 := hasB_iff.1 h1
 rw [amt_iff] at h3 h4
 unfold totB partB at h4
 rw [if_pos ⟨h1.2.2.1, h1.2.2.2⟩] at h4
 unfold MA at *
 omega
theorem Good.give {n m : Nat} {b : Nat → Nat → Int} (h : Good n m b) (a j x : Int) : Good n m (giveN n m b a j x) := by
 unfold giveN
 split
 · rename_i hc
   obtain ⟨h1, h2, h3, h4, h5, h6⟩ := give_ok hc
   have := h.cell (a := a.toNat) (j := j.toNat) (by omega) (by omega)
   exact h.upd (by omega) (by omega) (by omega) (by omega)
 · exact h
theorem take_ok {n m : Nat} {b : Nat → Nat → Int} {a j x : Int} (h : takeE n m b a j x = 0) : 0 ≤ a ∧ a < n ∧ 0 ≤ j ∧ j < m ∧ 0 ≤ x ∧ x ≤ b a.toNat j.toNat := by
 unfold takeE at h
 split at h
 · rename_i hc
   rw [Bool.and_eq_true, hasB_iff, amt_iff] at hc
   split at h
   · simp at h
   · omega
 · simp at h
theorem Good.take {n m : Nat} {b : Nat → Nat → Int} (h : Good n m b) (a j x : Int) : Good n m (takeN n m b a j x) := by
 unfold takeN
 split
 · rename_i hc
   obtain ⟨h1, h2, h3, h4, h5, h6⟩ := take_ok hc
   have := h.cell (a := a.toNat) (j := j.toNat) (by omega) (by omega)
   exact h.upd (by omega) (by omega) (by omega) (by omega)
 · exact h
theorem move_ok {n m : Nat} {b : Nat → Nat → Int} {f t j x : Int} (h : moveE n m b f t j x = 0) : 0 ≤ f ∧ f < n ∧ 0 ≤ t ∧ t < n ∧ 0 ≤ j ∧ j < m ∧ 0 ≤ x ∧ x ≤ b f.toNat j.toNat ∧ f ≠ t := by
 unfold moveE at h
 split at h
 · rename_i hc
   rw [Bool.and_eq_true, Bool.and_eq_true, hasB_iff, hasB_iff, amt_iff] at hc
   split at h
   · simp at h
   · split at h
     · simp at h
     · omega
 · simp at h
theorem tot_move {n m : Nat} {b : Nat → Nat → Int} {f t j x : Int} (k : Nat) : tot (moveN n m b f t j x) k n = tot b k n := by
 unfold moveN
 split
 · rename_i hc
   obtain ⟨h1, h2, h3, h4, h5, h6, h7, h8, h9⟩ := move_ok hc
   by_cases e : k = j.toNat
   · subst e
     rw [tot_upd (by omega), tot_upd (by omega), upd_row (Or.inl (by omega))]; omega
   · rw [tot_upd_far (Or.inr e), tot_upd_far (Or.inr e)]
 · rfl
theorem Good.move {n m : Nat} {b : Nat → Nat → Int} (h : Good n m b) (f t j x : Int) : Good n m (moveN n m b f t j x) := by
 refine ⟨h.n2, h.n16, h.m1, h.m4, fun i hi k hk => ?_, fun k hk => by rw [tot_move]; exact h.sum k hk⟩
 unfold moveN
 split
 · rename_i hc
   obtain ⟨h1, h2, h3, h4, h5, h6, h7, h8, h9⟩ := move_ok hc
   have ht := h.pos t.toNat (by omega) j.toNat (by omega)
   unfold Proofs.YtkaciaehlibidaaGreat.upd; split
   · omega
   · split
     · omega
     · exact h.pos i hi k hk
 · exact h.pos i hi k hk
structure PL (T : TypeId) (w : World) (p n m : Nat) (b : Nat → Nat → Int) (L lcap : Nat) (G C : Nat → Nat) : Prop where
 box : w.heap[p]? = some (.cells #[.slice (some ⟨L, 0, none⟩) n lcap] T (0, 0))
 list : ∃ cs, w.heap[L]? = some (.cells cs 60 (0, 0)) ∧ ∀ i, i < n → cs[i]? = some (.slice (some ⟨G i, 0, none⟩) m (C i))
 row : ∀ i, i < n → (∃ cs, w.heap[G i]? = some (.cells cs 3 (0, 0)) ∧ ∀ j, j < m → cs[j]? = some (.int .i64 (b i j)))
 cap : n ≤ lcap ∧ lcap ≤ maxLen ∧ ∀ i, i < n → m ≤ C i ∧ C i ≤ maxLen
 apart : L ≠ p ∧ (∀ i, i < n → G i ≠ p ∧ G i ≠ L) ∧ ∀ i, i < n → ∀ k, k < n → G i = G k → i = k
 pos : 0 < n
def fpP (p n L : Nat) (G : Nat → Nat) (k : Nat) : Prop := k = p ∨ k = L ∨ ∃ i, i < n ∧ k = G i
def PAt (T : TypeId) (w : World) (p : Nat) (S : Nat → Prop) (n m : Nat) (b : Nat → Nat → Int) : Prop :=
 ∃ L lcap G C, PL T w p n m b L lcap G C ∧ (∀ k, fpP p n L G k → S k) ∧ ∀ k, S k → k < w.heap.size
section
variable {T : TypeId} {w w' : World} {p n m L lcap : Nat} {b : Nat → Nat → Int} {G C : Nat → Nat}
theorem PL.cell0 (h : PL T w p n m b L lcap G C) : w.cell? ⟨p, 0, none⟩ = some (.slice (some ⟨L, 0, none⟩) n lcap) := by
 have := blk_cell h.box 0; simpa using this
theorem PL.cell1 (h : PL T w p n m b L lcap G C) {i : Nat} (hi : i < n) : w.cell? ⟨L, i, none⟩ = some (.slice (some ⟨G i, 0, none⟩) m (C i)) := by
 obtain ⟨cs, h1, h2⟩ := h.list
 rw [blk_cell h1 i]; exact h2 i hi
theorem PL.cell2 (h : PL T w p n m b L lcap G C) {i j : Nat} (hi : i < n) (hj : j < m) : w.cell? ⟨G i, j, none⟩ = some (.int .i64 (b i j)) ∧ w.frozen? ⟨G i, j, none⟩ = false := by
 obtain ⟨cs, h1, h2⟩ := h.row i hi
 rw [blk_cell h1 j, blk_frozen h1 j]; exact ⟨h2 j hj, rfl⟩
theorem PL.same (h : PL T w p n m b L lcap G C) (hs : ∀ k, fpP p n L G k → w'.heap[k]? = w.heap[k]?) : PL T w' p n m b L lcap G C := by
 refine ⟨(hs p (Or.inl rfl)).trans h.box, ?_, fun i hi => ?_, h.cap, h.apart, h.pos⟩
 · obtain ⟨cs, h1, h2⟩ := h.list
   exact ⟨cs, (hs L (Or.inr (Or.inl rfl))).trans h1, h2⟩
 · obtain ⟨cs, h1, h2⟩ := h.row i hi
   exact ⟨cs, (hs _ (Or.inr (Or.inr ⟨i, hi, rfl⟩))).trans h1, h2⟩
theorem PL.set (h : PL T w p n m b L lcap G C) {i j : Nat} (hi : i < n) (hj : j < m) (v : Int) : PL T (w.setCell ⟨G i, j, none⟩ (.int .i64 v)) p n m (upd b i j v) L lcap G C := by
 have ha := h.apart.2.1 i hi
 refine ⟨(Below.heap_setCell _ _ _ _ (Ne.symm ha.1)).trans h.box, ?_, fun k hk => ?_, h.cap, h.apart, h.pos⟩
 · obtain ⟨cs, h1, h2⟩ := h.list
   exact ⟨cs, (Below.heap_setCell _ _ _ _ (Ne.symm ha.2)).trans h1, h2⟩
 · obtain ⟨cs, h1, h2⟩ := h.row k hk
   by_cases e : k = i
   · subst e
     refine ⟨_, blk_set h1 j _, fun q hq => ?_⟩
     have hjl : j < cs.size := by
      have := h2 j hj
      exact (Array.getElem?_eq_some_iff.1 this).1
     by_cases e : q = j
     · subst e; simp [hjl, upd_at]
     · rw [Array.getElem?_setIfInBounds_ne (Ne.symm e), h2 q hq, upd_row (Or.inr e)]
   · refine ⟨cs, (Below.heap_setCell _ _ _ _ (fun e' => e (h.apart.2.2 k hk i hi e'))).trans h1, fun q hq => ?_⟩
     rw [h2 q hq, upd_row (Or.inl e)]
theorem PL.lt (h : PL T w p n m b L lcap G C) : ∀ k, fpP p n L G k → k < w.heap.size := by
 rintro k (rfl | rfl | ⟨i, hi, rfl⟩)
 · exact blk_lt h.box
 · obtain ⟨cs, h1, _⟩ := h.list; exact blk_lt h1
 · obtain ⟨cs, h1, _⟩ := h.row i hi; exact blk_lt h1
variable {S : Nat → Prop}
theorem PAt.keep {S' : Nat → Prop} (h : PAt T w p S n m b) (hk : Keeps S' w w') (hs : ∀ k, S k → ¬ S' k) : PAt T w' p S n m b := by
 obtain ⟨L, lcap, G, C, h1, h2, h3⟩ := h
 exact ⟨L, lcap, G, C, h1.same (fun k hk' => hk.block k (h1.lt k hk') (hs k (h2 k hk'))), h2, fun k hk' => Nat.lt_of_lt_of_le (h3 k hk') hk.size⟩
theorem PAt.below (h : PAt T w p S n m b) (hb : Below w.heap.size w w') : PAt T w' p S n m b := h.keep (Keeps.of_below (S := fun _ => False) hb) (fun _ _ f => f)
theorem PAt.set {i j : Nat} {L lcap : Nat} {G C : Nat → Nat} (h : PL T w p n m b L lcap G C) (h2 : ∀ k, fpP p n L G k → S k) (h3 : ∀ k, S k → k < w.heap.size) (hi : i < n) (hj : j < m) (v : Int) :
 PAt T (w.setCell ⟨G i, j, none⟩ (.int .i64 v)) p S n m (upd b i j v) ∧ Keeps S w (w.setCell ⟨G i, j, none⟩ (.int .i64 v)) :=
 ⟨⟨L, lcap, G, C, h.set hi hj v, h2, fun k hk => by simpa [World.setCell] using h3 k hk⟩, (Keeps.refl S w).setCell (p := ⟨G i, j, none⟩) (Or.inl (h2 _ (Or.inr (Or.inr ⟨i, hi, rfl⟩)))) _⟩
end
def PPost (T : TypeId) (w : World) (p : Nat) (S : Nat → Prop) (n m : Nat) (b : Nat → Nat → Int) (w' : World) : Prop := PAt T w' p S n m b ∧ Keeps S w w'
end Go.Proofs.YtkaciaehlibidaaGreat
