/- Law 12: the open ones, counted by the events; parts of rows of events. -/
import Derived.Test.YtkaciaehlibidaaGreatLr2
import Derived.Test.YtkaciaehlibidaaGreatLe4
namespace Go.Proofs.YtkaciaehlibidaaGreat
open Go.RowKit
set_option linter.unusedVariables false
set_option linter.unusedSimpArgs false

def openB (l : List XR) (e : EV) : Bool := e.k == 2 && (!idB l e.i || (getX l e.i).s == 0)
def openE (l : List XR) (es : List EV) : Nat := (es.filter (openB l)).length
theorem openE_take (l : List XR) (es : List EV) (k : Nat) (h : k < es.length) : openE l (es.take (k + 1)) = openE l (es.take k) + (if openB l es[k] = true then 1 else 0) := by
  unfold openE
  rw [List.take_add_one, List.getElem?_eq_getElem h, List.filter_append, List.length_append]
  congr 1
  show (List.filter _ [es[k]]).length = _
  by_cases hs : openB l es[k] = true
  · rw [if_pos hs]; simp [hs]
  · rw [if_neg hs]; simp [hs]
theorem openX_range (l : List XR) : openX l = ((List.range l.length).filter (fun j : Nat => (!idB l (j : Int) || (getX l (j : Int)).s == 0))).length := by
  have e : l = (List.range l.length).map (fun j => l.getD j default) := by
    apply List.ext_getElem
    · simp
    · intro i h1 h2
      simp [List.getD, h1]
  have e2 : openX l = ((List.range l.length).filter (fun j => (l.getD j default).s == 0)).length := by
    unfold openX
    conv => lhs; rw [e]
    rw [List.filter_map, List.length_map]
    rfl
  rw [e2]
  congr 1
  apply List.filter_congr
  intro j hj
  rw [List.mem_range] at hj
  have h1 : idB l (j : Int) = true := by unfold idB; rw [decide_eq_true_eq]; omega
  unfold getX atX
  rw [h1, if_pos rfl, Int.toNat_natCast]
  simp
theorem openE_all {s : LS} (h : LTell s) : openE s.l s.evs = openX s.l := by
  have e1 : openE s.l s.evs = ((lockI_ s.evs).filter (fun i => (!idB s.l i || (getX s.l i).s == 0))).length := by
    unfold openE lockI_ openB
    rw [List.filter_map, List.length_map, List.filter_filter]
    congr 1
    apply List.filter_congr
    intro e _
    exact Bool.and_comm _ _
  have e2 := replay_len s.evs s.l h s.evs.length (Nat.le_refl _)
  rw [List.take_length, h.fold] at e2
  rw [e1, e2, List.filter_map, List.length_map, openX_range]
  rfl
theorem slice_evh (ro : Option Addr) (q rc hi : Nat) (h2 : hi ≤ rc) (w : World) :
    (Instr.slice 35 (.slice ro q rc) none (some (.int .i64 (hi : Int))) none).run Tryz.prog w = .ok (.slice ro hi rc) w := by
  have hu := Tryz.underlying35
  obtain ⟨i0, hi0, hz0, hz1, hz2⟩ := info_parts Try_infoE9
  have hce : Tryz.prog.cellsOf 55 = 9 := by kernel_rfl
  cases ro with
  | none => simp [go_sem, hu, h2, hce]
  | some a => simp [go_sem, hu, h2, hce, Addr.add]
theorem EvsAt.take {w : World} {ao : Option Addr} {es : List EV} (h : EvsAt w ao es) (k : Nat) : EvsAt w ao (es.take k) := by
  rcases h with h | ⟨b, off, h1, h2⟩
  · rw [h]; exact Or.inl (by simp)
  · refine Or.inr ⟨b, off, h1, fun i hi => ?_⟩
    have h3 : i < es.length := by rw [List.length_take] at hi; omega
    rw [List.getElem_take]
    exact h2 i h3
theorem EV.at_.two {e : EV} {w : World} {b o : Nat} (h : e.at_ w b o) : w.cell? ⟨b, o, none⟩ = some (.int .i64 e.k) ∧ w.cell? ⟨b, o + 5, none⟩ = some (.int .i64 e.i) := by
  exact ⟨h 0 _ rfl, h 5 _ rfl⟩

end Go.Proofs.YtkaciaehlibidaaGreat
