/- Contracts of (*sha.Table).reckon, Word, Start. -/
import Derived.Test.YtbhoakohpfdeoaaGreatSha3
import Derived.Test.YtbhoakohpfdeoaaGreatByt
import Derived.Deep.RegionHeld3
namespace Go.Proofs.YtbhoakohpfdeoaaGreat
open Go.RowKit
set_option linter.unusedVariables false
set_option linter.unusedSimpArgs false

def findP : Nat → Nat → Nat
  | 0, p => p
  | f + 1, p => if primeB p = true then p else findP f (p + 1)
def pAt : Nat → Nat
  | 0 => 2
  | i + 1 => findP 40 (pAt i) + 1
theorem findP_ge : ∀ (f p : Nat), p ≤ findP f p
  | 0, _ => Nat.le_refl _
  | f + 1, p => by
    unfold findP
    split
    · exact Nat.le_refl _
    · have := findP_ge f (p + 1); omega
def qAt (i : Nat) : Nat := findP 40 (pAt i)
def kAt (i : Nat) : Int := (kWord (qAt i) : Nat)
def hAt (i : Nat) : Int := (hWord (qAt i) : Nat)
theorem primes_all : (List.range 64).all (fun i => primeB (qAt i) && decide (qAt i < 400) && decide (pAt i < 400)) = true := by decide +kernel
theorem primes_at (i : Nat) (h : i < 64) : primeB (qAt i) = true ∧ qAt i < 400 ∧ pAt i < 400 := by
  have h2 := List.all_eq_true.1 primes_all i (List.mem_range.2 h)
  simp only [Bool.and_eq_true, decide_eq_true_eq] at h2
  exact ⟨h2.1.1, h2.1.2, h2.2⟩

def Tab (w : World) (b : Nat) (d s : Int) (kv hv : Nat → Int) : Prop :=
  ∃ cs, w.heap[b]? = some (.cells cs 92 (0, 0)) ∧ cs.size = 75 ∧ cs[0]? = some (.int .u32 d) ∧ cs[1]? = some (.int .i32 s) ∧ (∀ j, j < 64 → cs[3 + j]? = some (.int .u32 (kv j))) ∧ (∀ j, j < 8 → cs[67 + j]? = some (.int .u32 (hv j)))
section
variable {w w' : World} {b : Nat} {d s : Int} {kv hv : Nat → Int}
theorem Tab.lt (h : Tab w b d s kv hv) : b < w.heap.size := by obtain ⟨_, h, _⟩ := h; exact blk_lt h
theorem Tab.same (h : Tab w b d s kv hv) (he : w'.heap[b]? = w.heap[b]?) : Tab w' b d s kv hv := by
  obtain ⟨cs, h1, h2⟩ := h
  exact ⟨cs, he.trans h1, h2⟩
theorem Tab.below (h : Tab w b d s kv hv) (hb : Below w.heap.size w w') : Tab w' b d s kv hv := h.same (hb.block _ h.lt)
theorem Tab.dn (h : Tab w b d s kv hv) : w.cell? ⟨b, 0, none⟩ = some (.int .u32 d) ∧ w.frozen? ⟨b, 0, none⟩ = false := by
  obtain ⟨cs, h1, _, h2, _⟩ := h
  exact ⟨(blk_cell h1 0).trans h2, blk_frozen h1 0⟩
theorem Tab.st (h : Tab w b d s kv hv) : w.cell? ⟨b, 1, none⟩ = some (.int .i32 s) ∧ w.frozen? ⟨b, 1, none⟩ = false := by
  obtain ⟨cs, h1, _, _, h2, _⟩ := h
  exact ⟨(blk_cell h1 1).trans h2, blk_frozen h1 1⟩
theorem Tab.kc (h : Tab w b d s kv hv) (j : Nat) (hj : j < 64) : w.cell? ⟨b, 3 + j, none⟩ = some (.int .u32 (kv j)) ∧ w.frozen? ⟨b, 3 + j, none⟩ = false := by
  obtain ⟨cs, h1, _, _, _, h2, _⟩ := h
  exact ⟨(blk_cell h1 _).trans (h2 j hj), blk_frozen h1 _⟩
theorem Tab.hc (h : Tab w b d s kv hv) (j : Nat) (hj : j < 8) : w.cell? ⟨b, 67 + j, none⟩ = some (.int .u32 (hv j)) ∧ w.frozen? ⟨b, 67 + j, none⟩ = false := by
  obtain ⟨cs, h1, _, _, _, _, h2⟩ := h
  exact ⟨(blk_cell h1 _).trans (h2 j hj), blk_frozen h1 _⟩
theorem Tab.setK (h : Tab w b d s kv hv) (i : Nat) (hi : i < 64) (v : Int) : Tab (w.setCell ⟨b, 3 + i, none⟩ (.int .u32 v)) b d s (fun j => if j = i then v else kv j) hv := by
  obtain ⟨cs, h1, h2, h3, h4, h5, h6⟩ := h
  refine ⟨_, blk_set h1 (3 + i) _, by simpa using h2, ?_, ?_, fun j hj => ?_, fun j hj => ?_⟩
  · rw [Array.getElem?_setIfInBounds_ne (by omega)]; exact h3
  · rw [Array.getElem?_setIfInBounds_ne (by omega)]; exact h4
  · by_cases e : j = i
    · subst e
      rw [Array.getElem?_setIfInBounds_self, if_pos (by omega)]; simp
    · show _ = some (Value.int .u32 (if j = i then v else kv j))
      rw [Array.getElem?_setIfInBounds_ne (by omega), if_neg e]; exact h5 j hj
  · rw [Array.getElem?_setIfInBounds_ne (by omega)]; exact h6 j hj
theorem Tab.setH (h : Tab w b d s kv hv) (i : Nat) (hi : i < 8) (v : Int) : Tab (w.setCell ⟨b, 67 + i, none⟩ (.int .u32 v)) b d s kv (fun j => if j = i then v else hv j) := by
  obtain ⟨cs, h1, h2, h3, h4, h5, h6⟩ := h
  refine ⟨_, blk_set h1 (67 + i) _, by simpa using h2, ?_, ?_, fun j hj => ?_, fun j hj => ?_⟩
  · rw [Array.getElem?_setIfInBounds_ne (by omega)]; exact h3
  · rw [Array.getElem?_setIfInBounds_ne (by omega)]; exact h4
  · rw [Array.getElem?_setIfInBounds_ne (by omega)]; exact h5 j hj
  · by_cases e : j = i
    · subst e
      rw [Array.getElem?_setIfInBounds_self, if_pos (by omega)]; simp
    · show _ = some (Value.int .u32 (if j = i then v else hv j))
      rw [Array.getElem?_setIfInBounds_ne (by omega), if_neg e]; exact h6 j hj
theorem Tab.setD (h : Tab w b d s kv hv) (v : Int) : Tab (w.setCell ⟨b, 0, none⟩ (.int .u32 v)) b v s kv hv := by
  obtain ⟨cs, h1, h2, h3, h4, h5, h6⟩ := h
  refine ⟨_, blk_set h1 0 _, by simpa using h2, ?_, ?_, fun j hj => ?_, fun j hj => ?_⟩
  · rw [Array.getElem?_setIfInBounds_self, if_pos (by omega)]
  · rw [Array.getElem?_setIfInBounds_ne (by omega)]; exact h4
  · rw [Array.getElem?_setIfInBounds_ne (by omega)]; exact h5 j hj
  · rw [Array.getElem?_setIfInBounds_ne (by omega)]; exact h6 j hj
theorem Tab.setS (h : Tab w b d s kv hv) (v : Int) : Tab (w.setCell ⟨b, 1, none⟩ (.int .i32 v)) b d v kv hv := by
  obtain ⟨cs, h1, h2, h3, h4, h5, h6⟩ := h
  refine ⟨_, blk_set h1 1 _, by simpa using h2, ?_, ?_, fun j hj => ?_, fun j hj => ?_⟩
  · rw [Array.getElem?_setIfInBounds_ne (by omega)]; exact h3
  · rw [Array.getElem?_setIfInBounds_self, if_pos (by omega)]
  · rw [Array.getElem?_setIfInBounds_ne (by omega)]; exact h5 j hj
  · rw [Array.getElem?_setIfInBounds_ne (by omega)]; exact h6 j hj
theorem Tab.to (h : Tab w b d s kv hv) {kv' hv' : Nat → Int} (hk : ∀ j, j < 64 → kv j = kv' j) (hh : ∀ j, j < 8 → hv j = hv' j) : Tab w b d s kv' hv' := by
  obtain ⟨cs, h1, h2, h3, h4, h5, h6⟩ := h
  exact ⟨cs, h1, h2, h3, h4, fun j hj => by rw [← hk j hj]; exact h5 j hj, fun j hj => by rw [← hh j hj]; exact h6 j hj⟩
end

set_option maxRecDepth 100000 in
set_option maxHeartbeats 2000000 in
theorem reckon_any (b : Nat) (d s : Int) (kv hv : Nat → Int) (w : World) (h : Tab w b d s kv hv) :
    Calls Tryz.prog 74 #[.pointer (some ⟨b, 0, none⟩)] w fun e w' => e = .returned (.tuple #[]) ∧ Tab w' b d s kAt hAt ∧ Keeps (fun i => i = b) w w' := by
  have H := Lib.hid h
  clear h
  go_enter Tryz.func74, Tryz.ntmps74
  go_wp2_with fail
  go_loopw [2, 4] (fun p i wr => ∃ k : Nat, k ≤ 64 ∧ p = .int .u64 (pAt k) ∧ i = .int .i64 k ∧ Tab wr b d s (fun j => if j < k then kAt j else kv j) (fun j => if j < k then hAt j else hv j) ∧ Keeps (fun i => i = b) w wr) (fun _ i _ => 64 - (intOf i).toNat)
  case atStart => exact ⟨0, Nat.zero_le _, rfl, rfl, H.out.to (fun j _ => by simp) (fun j _ => by simp), Keeps.refl _ _⟩
  case round =>
    obtain ⟨k, hk, rfl, rfl, ht, hkp⟩ := hrel
    have HT := Lib.hid ht
    have HKP := Lib.hid hkp
    clear ht hkp
    by_cases hlt : k < 64
    · obtain ⟨hp1, hp2, hp3⟩ := primes_at k hlt
      have HP1 := Lib.hid hp1
      have HPN := Lib.hid (show pAt (k + 1) = qAt k + 1 from rfl)
      have HQ0 := Lib.hid (show findP 40 (pAt k) = qAt k from rfl)
      have HKV := Lib.hid (show kAt k = ((kWord (qAt k) : Nat) : Int) from rfl)
      have HHV := Lib.hid (show hAt k = ((hWord (qAt k) : Nat) : Int) from rfl)
      generalize pAt k = P at *
      generalize qAt k = Q at *
      clear hp1
      have j0 : (0 : Int) ≤ (k : Int) := by omega
      have j1 : (k : Int) < 64 := by omega
      go_wp2_with fail
      go_loopw [2] (fun p wi => ∃ x f : Nat, p = .int .u64 x ∧ findP f x = Q ∧ wi = wr) (fun p _ => 500 - (intOf p).toNat)
      case atStart => exact ⟨P, 40, rfl, HQ0.out, rfl⟩
      case round =>
        obtain ⟨x, f, rfl, hf, rfl⟩ := hrel
        have hxQ : x ≤ Q := by rw [← hf]; exact findP_ge f x
        have HFX := Lib.hid hf
        have HPX := Lib.hid (prime_any x (by omega) wr)
        clear hf
        cases hpx : primeB x
        · have HNX : Hid (∃ f', findP f' (x + 1) = Q) := Lib.hid (by
            cases f with
            | zero =>
              have e : x = Q := HFX.out
              rw [e, HP1.out] at hpx; cases hpx
            | succ f' =>
              refine ⟨f', ?_⟩
              have e := HFX.out
              unfold findP at e
              rwa [hpx, if_neg (by decide)] at e)
          obtain ⟨f', hf'⟩ := HNX.out
          have HF' := Lib.hid hf'
          have hxQ' : x + 1 ≤ Q := by rw [← hf']; exact findP_ge f' (x + 1)
          rw [hpx] at HPX
          clear hpx hf'
          go_wp2_with fail
          refine HPX.out.mono ?_
          rintro e w' ⟨rfl, rfl⟩
          go_wp2
          go_roundw
          case rel => exact ⟨x + 1, f', by go_num, HF'.out, by first | rfl | trivial⟩
          case measure => simp [intOf]; omega
        · have HXQ : Hid (x = Q) := Lib.hid (by
            have e := HFX.out
            cases f with
            | zero => exact e
            | succ f' => unfold findP at e; rwa [hpx, if_pos rfl] at e)
          obtain rfl := HXQ.out
          rw [hpx] at HPX
          clear hpx HXQ HFX
          obtain ⟨c0, f0⟩ := HT.out.kc k hlt
          have HRC := Lib.hid (root_cube x (by omega))
          have HSQ := Lib.hid (root_square x (by omega))
          go_wp2_with fail
          refine HPX.out.mono ?_
          rintro e w' ⟨rfl, rfl⟩
          go_wp2_with fail
          go_region_held3 (fun _ => True) (trivial) (first | (go_at_call 83; refine (HRC.out _).mono ?_; rintro e w' ⟨rfl, rfl⟩))
          have HT6 := Lib.hid ((HT.out.setK k hlt (kWord x)).same (w' := (wr.setCell ⟨b, 3 + k, none⟩ (.int .u32 (kWord x))).drew) rfl)
          have HK6 := Lib.hid (HKP.out.trans (((Keeps.refl (fun i => i = b) wr).setCell (p := ⟨b, 3 + k, none⟩) (Or.inl rfl) (.int .u32 (kWord x))).drew) (fun i hi => Or.inl hi))
          obtain ⟨w6, hw6⟩ : ∃ w6, w6 = (wr.setCell ⟨b, 3 + k, none⟩ (.int .u32 (kWord x))).drew := ⟨_, rfl⟩
          rw [← hw6] at HT6 HK6 ⊢
          clear hw6
          go_upto_if 20 with fail
          go_cut [] (fun wx => Tab wx b d s (fun j => if j < k + 1 then kAt j else kv j) (fun j => if j < k + 1 then hAt j else hv j) ∧ Keeps (fun i => i = b) w wx)
          case first =>
            by_cases h8 : k < 8
            · have h8' : (k : Int) < 8 := by omega
              obtain ⟨c8, f8⟩ := HT6.out.hc k h8
              go_wp2_with fail
              go_region_held3 (fun _ => True) (trivial) (first | (go_at_call 83; refine (HSQ.out _).mono ?_; rintro e w' ⟨rfl, rfl⟩))
              have HT8 := Lib.hid ((HT6.out.setH k h8 (hWord x)).same (w' := (w6.setCell ⟨b, 67 + k, none⟩ (.int .u32 (hWord x))).drew) rfl)
              have HK8 := Lib.hid (HK6.out.trans (((Keeps.refl (fun i => i = b) w6).setCell (p := ⟨b, 67 + k, none⟩) (Or.inl rfl) (.int .u32 (hWord x))).drew) (fun i hi => Or.inl hi))
              go_wp2_with fail
              go_meet
              case rel =>
                refine ⟨HT8.out.to (fun j hj => ?_) (fun j hj => ?_), HK8.out⟩
                · by_cases e : j = k
                  · subst e; simp [HKV.out]
                  · simp only [e, if_false]
                    by_cases e2 : j < k
                    · rw [if_pos e2, if_pos (by omega)]
                    · rw [if_neg e2, if_neg (by omega)]
                · by_cases e : j = k
                  · subst e; simp [HHV.out]
                  · simp only [e, if_false]
                    by_cases e2 : j < k
                    · rw [if_pos e2, if_pos (by omega)]
                    · rw [if_neg e2, if_neg (by omega)]
            · have h8' : ¬ (k : Int) < 8 := by omega
              go_wp2_with fail
              go_meet
              case rel =>
                refine ⟨HT6.out.to (fun j hj => ?_) (fun j hj => ?_), HK6.out⟩
                · by_cases e : j = k
                  · subst e; simp [HKV.out]
                  · simp only [e, if_false]
                    by_cases e2 : j < k
                    · rw [if_pos e2, if_pos (by omega)]
                    · rw [if_neg e2, if_neg (by omega)]
                · rw [if_pos (by omega), if_pos (by omega)]
          case rest =>
            obtain ⟨hct, hck⟩ := hcut
            have HCT := Lib.hid hct
            have HCK := Lib.hid hck
            clear hct hck
            go_wp2
            go_roundw
            case rel => exact ⟨k + 1, by omega, by rw [HPN.out]; go_num, by go_num, HCT.out, HCK.out⟩
            case measure => simp [intOf]; omega
    · obtain rfl : k = 64 := by omega
      have HFT : Hid (Tab wr b d s kAt hAt) := Lib.hid (HT.out.to (fun j hj => by simp [hj]) (fun j hj => by simp; intro h; omega))
      go_wp2
      go_end0
      exact ⟨rfl, HFT.out, HKP.out⟩

end Go.Proofs.YtbhoakohpfdeoaaGreat
