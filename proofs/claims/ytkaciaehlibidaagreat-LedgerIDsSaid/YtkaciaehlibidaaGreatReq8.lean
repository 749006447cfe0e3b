/- Contracts of cfllaw11's Few and FewAnswer. -/
import Derived.Test.YtkaciaehlibidaaGreatReq7
import Derived.Test.YtkaciaehlibidaaGreatLgD
namespace Go.Proofs.YtkaciaehlibidaaGreat
open Go.RowKit
set_option linter.unusedVariables false

def min2 (p : Nat × Nat) : Nat := min p.1 20001 + min p.2 20001
def fewE (ls : List (Nat × Nat)) (many : Nat) : Bool := decide (ls.length ≤ many ∧ ((ls.take many).map min2).sum ≤ 20000)
theorem min2_le : ∀ (ls : List (Nat × Nat)), (ls.map min2).sum ≤ 20000 → (ls.map (fun p => p.1 + p.2)).sum ≤ 20000 := by
  intro ls
  have h1 : ∀ ls : List (Nat × Nat), (ls.map min2).sum ≤ 20000 → (ls.map min2).sum = (ls.map (fun p => p.1 + p.2)).sum := by
    intro ls
    induction ls with
    | nil => simp
    | cons x xs ih =>
      intro hx
      simp only [List.map_cons, List.sum_cons] at hx ⊢
      have := ih (by omega)
      have hm : min2 x = min x.1 20001 + min x.2 20001 := rfl
      rw [hm] at hx ⊢
      omega
  intro h
  have := h1 ls h
  omega
theorem fewE_facts (ls : List (Nat × Nat)) (many : Nat) (h : fewE ls many = true) : ls.length ≤ many ∧ (ls.map (fun p => p.1 + p.2)).sum ≤ 20000 := by
  simp only [fewE, decide_eq_true_eq] at h
  rw [List.take_of_length_le h.1] at h
  exact ⟨h.1, min2_le ls h.2⟩
theorem min2_bound (ls : List (Nat × Nat)) : (ls.map min2).sum ≤ ls.length * 40002 := by
  induction ls with
  | nil => simp
  | cons x xs ih => simp only [List.map_cons, List.sum_cons, List.length_cons]; rw [Nat.add_mul]; have hm : min2 x = min x.1 20001 + min x.2 20001 := rfl; rw [hm]; omega
def rqTexts (rs : List RQ) : List (Nat × Nat) := rs.map (fun r => (r.h.size, r.s.size))
def evTexts (rs : List EV) : List (Nat × Nat) := rs.map (fun r => (r.h.size, r.s.size))
def fewRq (rs : List RQ) : Bool := fewE (rqTexts rs) 100
def fewAns (n : Nat) (es : List EV) : Bool := fewE (evTexts es) 500 && decide (n ≤ 200)
theorem fewRq_facts (rs : List RQ) (h : fewRq rs = true) : rs.length ≤ 100 ∧ rqSum rs ≤ 20000 := by
  have := fewE_facts _ _ h
  simpa [rqTexts, rqSum, List.map_map, Function.comp_def] using this
theorem fewAns_facts (n : Nat) (es : List EV) (h : fewAns n es = true) : es.length ≤ 500 ∧ n ≤ 200 ∧ evSum es ≤ 20000 := by
  simp only [fewAns, Bool.and_eq_true, decide_eq_true_eq] at h
  have := fewE_facts _ _ h.1
  simp [evTexts, evSum, List.map_map, Function.comp_def] at this ⊢
  exact ⟨this.1, h.2, this.2⟩

set_option maxRecDepth 100000 in
set_option maxHeartbeats 2000000 in
theorem few11_any (seen : Int) (ao : Option Addr) (rs : List RQ) (n cap : Nat) (w : World) (hn : rs.length = n) (h : RqsAt w ao rs) (hcap : n ≤ cap) (hm : cap ≤ maxLen) :
    Calls Tryz.prog 26 #[.agg #[.int .i64 seen, .slice ao n cap]] w fun e w' => e = .returned (.bool (fewRq rs)) ∧ Below w.heap.size w w' := by
  have HR := Lib.hid h
  have HN := Lib.hid hn
  obtain ⟨ls, hls⟩ : ∃ ls, ls = (rqTexts rs).map min2 := ⟨_, rfl⟩
  have HTL : Hid ((rqTexts rs).length = n) := Lib.hid (by simp [rqTexts, hn])
  have HLL : Hid (ls.length = n) := Lib.hid (by rw [hls]; simp [HTL.out])
  have HBD : Hid (∀ k, k ≤ 100 → (ls.take k).sum ≤ 1000001000) := Lib.hid (by
    intro k hk
    rw [hls, ← List.map_take]
    have h1 := min2_bound ((rqTexts rs).take k)
    have h2 : ((rqTexts rs).take k).length ≤ 100 := by simp; omega
    have h3 := Nat.mul_le_mul_right 40002 h2
    omega)
  have HLS := Lib.hid hls
  unfold maxLen at hm
  obtain ⟨w2, hw2⟩ : ∃ w2, w2 = w.alloc (.cells #[.int .i64 seen, .slice ao n cap] 41) := ⟨_, rfl⟩
  have HB2 : Hid (Below w.heap.size w w2) := Lib.hid (by subst hw2; exact (Below.refl _ _).alloc (Nat.le_refl _) _)
  have HX2 : Hid (w2.heap[w.heap.size]? = some (.cells #[.int .i64 seen, .slice ao n cap] 41 (0, 0))) := Lib.hid (by subst hw2; exact heap_alloc_new w _)
  have HW2 := Lib.hid hw2
  clear h hn hls hw2
  go_enter Tryz.func26, Tryz.ntmps26
  go_wp2_with fail
  rw [← HW2.out]
  go_loopw [3, 4] (fun t i wr => ∃ k : Nat, k ≤ n ∧ k ≤ 100 ∧ i = .int .i64 k ∧ t = .int .i64 ((ls.take k).sum : Nat) ∧ Below w.heap.size w wr ∧ wr.heap[w.heap.size]? = some (.cells #[.int .i64 seen, .slice ao n cap] 41 (0, 0))) (fun _ i _ => n - (intOf i).toNat)
  case atStart => exact ⟨0, Nat.zero_le _, Nat.zero_le _, rfl, rfl, HB2.out, HX2.out⟩
  case round =>
    obtain ⟨k, hk, hk2, rfl, rfl, hbel, hx⟩ := hrel
    have HBE := Lib.hid hbel
    have HX := Lib.hid hx
    have x1 : wr.cell? ⟨w.heap.size, 1, none⟩ = some (.slice ao n cap) := by rw [blk_cell hx]; rfl
    skip
    clear hx hbel
    have hbd := HBD.out k hk2
    by_cases hlt : k < n
    · by_cases hlt2 : k < 100
      · have hkl : k < ls.length := by rw [HLL.out]; exact hlt
        have hkb : k < rs.length := by rw [HN.out]; exact hlt
        obtain ⟨b, off, rfl, hat⟩ := rq_cells (HR.out.below HBE.out) k hkb
        obtain ⟨c0, c1, c2, c3, c4, c5, c6, c7⟩ := hat.all
        have HS := Lib.hid (sum_take_succ ls k hkl)
        have HMIN : Hid (ls[k] = min rs[k].h.size 20001 + min rs[k].s.size 20001) := Lib.hid (by simp [HLS.out, rqTexts, min2])
        generalize ls[k] = m at *
        generalize rs[k] = r at *
        clear hkl hat c0 c1 c2 c3 c4 c5
        generalize (ls.take k).sum = s at *
        have HBD2 := Lib.hid (fun j => HBE.out.trans (Keeps.below ((Keeps.refl (fun _ => False) wr).drewN j) (B := w.heap.size) HBE.out.size (fun _ f => f.elim)))
        have HXD := Lib.hid (fun j => (((Keeps.refl (fun _ => False) wr).drewN j).block w.heap.size (blk_lt HX.out) (fun f => f.elim)).trans HX.out)
        have i0 : (0 : Int) ≤ (k : Int) := by omega
        have i1 : (k : Int) < (n : Int) := by omega
        have i2 : (k : Int) < (100 : Int) := by omega
        go_wp2_with fail
        go_quiet (fail)
        go_wp2
        go_roundw
        case rel => exact ⟨k + 1, by omega, by omega, by go_num, by rw [HS.out, HMIN.out]; congr 1; split <;> split <;> omega, HBD2.out _, HXD.out _⟩
        case measure => simp [intOf]; omega
      · obtain rfl : 100 = k := by omega
        have HF := Lib.hid (show fewRq rs = false by unfold fewRq fewE; simp only [HTL.out, decide_eq_false_iff_not]; omega)
        have i1 : (100 : Int) < (n : Int) := by omega
        have i2 : ¬ (n : Int) ≤ (100 : Int) := by omega
        clear hlt2
        go_wp2
        go_ret
        exact ⟨ret_bool HF.out.symm, HBE.out⟩
    · obtain rfl : k = n := by omega
      have i2 : (k : Int) ≤ (100 : Int) := by omega
      have HT : Hid ((ls.take k).sum = (((rqTexts rs).take 100).map min2).sum) := Lib.hid (by
        rw [List.take_of_length_le (by rw [HLL.out]; exact Nat.le_refl _), HLS.out, List.take_of_length_le (l := rqTexts rs) (by rw [HTL.out]; exact hk2)])
      by_cases hs : (ls.take k).sum ≤ 20000
      · have HF := Lib.hid (show fewRq rs = true by
          unfold fewRq fewE
          rw [← HT.out]
          simp only [HTL.out, decide_eq_true_eq]; omega)
        generalize (ls.take k).sum = s at *
        have i3 : (s : Int) ≤ (20000 : Int) := by omega
        clear hlt
        go_wp2
        go_ret
        exact ⟨ret_bool HF.out.symm, HBE.out⟩
      · have HF := Lib.hid (show fewRq rs = false by
          unfold fewRq fewE
          rw [← HT.out]
          simp only [HTL.out, decide_eq_false_iff_not]; omega)
        generalize (ls.take k).sum = s at *
        have i3 : ¬ (s : Int) ≤ (20000 : Int) := by omega
        clear hlt
        go_wp2
        go_ret
        exact ⟨ret_bool HF.out.symm, HBE.out⟩


end Go.Proofs.YtkaciaehlibidaaGreat
