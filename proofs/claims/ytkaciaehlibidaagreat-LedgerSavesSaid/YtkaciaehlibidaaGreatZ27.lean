/- Parts of the proof: Lsf Lsfs. -/
import Derived.Test.YtkaciaehlibidaaGreatZ25
import Derived.Test.YtkaciaehlibidaaGreatZ26
import Derived.ChangeMaps5
namespace Go.Proofs.YtkaciaehlibidaaGreat
open Go.RowKit
set_option linter.unusedVariables false
set_option linter.unusedSimpArgs false
theorem walk_ledgerSaves (W : World) (ao : Option Addr) (bs : List ISl) (n cap : Nat) (E : Int) (hn : bs.length = n) (h : IntsList W ao bs) (hcap : n ≤ cap) (hcm : cap ≤ maxLen)
 (lo : Option Addr) (ls : List LO) (r lc : Nat) (hr : ls.length = r) (h2 : LosAt W lo ls) (hrc : r ≤ lc) (hrm : lc ≤ maxLen) (at_ : Int) (wat : (Lit.int .i64 at_).wf = true)
 (zo : Option Addr) (zs : List Int) (zc : Nat) (hz : IntsAt .u8 W zo zs) (hzc : zs.length ≤ zc) (wf : zc ≤ maxLen ∧ ∀ z ∈ zs, (Lit.int .u8 z).wf = true) :
 Calls Tryz.prog 7 #[.agg #[.slice ao n cap, .int .i64 E], .slice lo r lc, .int .i64 at_, .slice zo zs.length zc] W fun e w' => e = .returned (.bool true) ∧ Below W.heap.size W w' :=
 saves_core (fun S W w n m E s T X B q h p r => xled_one h p r) (fun ao bs n cap m E zo zs zn zc w a1 a2 a3 a4 a5 a6 a7 a8 a9 a10 => xledger_load (fun S W w n m E s T X B q h p r => xled_one h p r) ao bs n cap m E zo zs zn zc w a1 a2 a3 a4 a5 a6 a7 a8 a9 a10) W ao bs n cap E hn h hcap hcm lo ls r lc hr h2 hrc hrm at_ zo zs zs.length zc rfl hz (inB_of_wf wf.2) hzc wf.1
section
open Go.ChangeShapes Go.WideShapes Go.ChangeAt
theorem ledgerSaves_own : ownKnob Tryz.prog.godebug = none := by kernel_rfl
theorem ledgerSaves_laidOut : laidOutB Tryz.prog = true := by kernel_rfl
set_option maxRecDepth 100000 in
theorem ledgerSaves_lifted (os : Os) (started : os.Started) (H : Type) (enc : TypeId × Value → H) :
 ReturnsInHanded {} Tryz.checked os 7 .any (Rows.ledgerSavesSpec.pre6 enc Tryz.prog Tryz.f7 Rows.ledgerSavesRow.domain false) (Rows.ledgerSavesSpec.post enc Tryz.prog Tryz.f7 false true false false) := by
 refine returnsInHanded_of_change (C := Tryz.checked) ledgerSaves_own started (by kernel_rfl) Tryz.func7
  (ChangeSpec.witness6 (enc := enc) (C := Tryz.checked) false ⟨#[], #[.agg #[.slice none 0 0, .int .i64 0], .slice none 0 0, .int .i64 0, .slice none 0 0], []⟩ 8 (by kernel_rfl) (by kernel_rfl) (by kernel_rfl) (by kernel_rfl)) ?_
 intro W base args ds gs before hval0 hW hcnd _
 have hval : ∀ (j : Nat) t v, Tryz.f7.params[j]? = some t → args[j]? = some v → Value.okWide Tryz.prog W .any base t v := hval0
 have hW' := hW
 obtain ⟨p, q, hA0, hV, rfl, hfz, hnd⟩ := hW
 have hA : DataW.TrodAll enc Tryz.prog W 0 (fun _ => true) true Tryz.f7.params.toList args.toList ds p := hA0
 rw [Tryz.params7] at hA hval
 obtain ⟨v0, vs0, d0, ds0, p0, q0, hargs, rfl, rfl, h0, r0⟩ := trodAll_cons hA
 obtain ⟨v1, vs1, d1, ds1, p1, q1, rfl, rfl, rfl, h1, r1⟩ := trodAll_cons r0
 obtain ⟨v2, vs2, d2, ds2, p2, q2, rfl, rfl, rfl, h2, r2⟩ := trodAll_cons r1
 obtain ⟨v3, vs3, d3, ds3, p3, q3, rfl, rfl, rfl, h3, r3⟩ := trodAll_cons r2
 obtain ⟨rfl, rfl, rfl⟩ := trodAll_nil r3
 obtain rfl : args = #[v0, v1, v2, v3] := by cases args; simp_all
 obtain ⟨rfl, rfl⟩ := trodVars_none hV
 have k0 := h0
 have lt0 : ∀ x ∈ p0, x.block < W.heap.size := by obtain ⟨m, hm⟩ := k0; exact DataW.trod_lt m _ _ _ hm
 obtain ⟨ao0, bs0, n0, cap0, E0, rfl, hn0, w0, hc0, hm0⟩ := conf_of (hval 0 24 v0 rfl rfl) h0
 have k1 := h1
 have lt1 : ∀ x ∈ p1, x.block < W.heap.size := by obtain ⟨m, hm⟩ := k1; exact DataW.trod_lt m _ _ _ hm
 obtain ⟨ao1, len1, cap1, rfl⟩ := okWide_slice Tryz.underlying25 (hval 1 25 v1 rfl rfl)
 obtain ⟨z1, hl1, w1, hc1, wf1⟩ := los_of h1
 have k2 := h2
 have lt2 : ∀ x ∈ p2, x.block < W.heap.size := by obtain ⟨m, hm⟩ := k2; exact DataW.trod_lt m _ _ _ hm
 obtain ⟨a2, rfl, rfl, rfl, w2⟩ := open_int Tryz.underlying3 (hval 2 3 v2 rfl rfl) h2
 have k3 := h3
 have lt3 : ∀ x ∈ p3, x.block < W.heap.size := by obtain ⟨m, hm⟩ := k3; exact DataW.trod_lt m _ _ _ hm
 obtain ⟨ao3, len3, cap3, rfl⟩ := okWide_slice Tryz.underlying62 (hval 3 62 v3 rfl rfl)
 obtain ⟨z3, rfl, w3, hc3, wf3⟩ := ints_of Tryz.underlying62 Tryz.underlying5 (by kernel_rfl) h3
 clear hA0 hval0
 refine (walk_ledgerSaves W ao0 bs0 n0 cap0 E0 hn0 w0 hc0 hm0 ao1 z1 len1 cap1 hl1.symm w1 hc1 wf1 a2 w2 ao3 z3 cap3 w3 hc3 wf3).mono fun e W' ⟨he, bel⟩ => ?_
 subst he
 exact ⟨_, rfl, _, _, _, [], _, [], hW', trodAll_mk1 (shut_bool Tryz.underlying4 _), (trodAll_cons_mk (Below.trod ledgerSaves_laidOut (by kernel_rfl) (of_decide_eq_true (by kernel_rfl)) k0 bel lt0) (trodAll_cons_mk (Below.trod ledgerSaves_laidOut (by kernel_rfl) (of_decide_eq_true (by kernel_rfl)) k1 bel lt1) (trodAll_cons_mk (Below.trod ledgerSaves_laidOut (by kernel_rfl) (of_decide_eq_true (by kernel_rfl)) k2 bel lt2) (trodAll_cons_mk (Below.trod ledgerSaves_laidOut (by kernel_rfl) (of_decide_eq_true (by kernel_rfl)) k3 bel lt3) trodAll_mk0)))), rfl, bel.frame _, fun h => by cases h⟩
theorem ledgerSaves_over : Rows.ledgerSavesRow.holds Tryz.pinned (OpenSpec.ofChange Rows.ledgerSavesSpec) :=
 OpenClaim.holds_of_wide 7 Tryz.f7 rfl rfl rfl rfl rfl rfl rfl ⟨rfl, rfl, rfl, rfl, rfl⟩ rfl rfl rfl rfl rfl (by kernel_rfl) Tryz.func7 (by kernel_rfl)
  (of_decide_eq_true (by kernel_rfl)) (by unfold Func.isWrapper; first | (rw [if_pos (by decide +kernel)]; kernel_rfl) | (rw [if_neg (by decide +kernel)]; exact ⟨rfl, rfl⟩))
  (fun os started H enc _ => ledgerSaves_lifted os started H enc)
theorem ledgerSaves_holds : Rows.LedgerSavesSaid := ledgerSaves_over
end
end Go.Proofs.YtkaciaehlibidaaGreat
