/- Parts of the proof: Sha10 ShaR1. -/
import Derived.Test.YtkaciaehlibidaaGreatZ04
import Derived.Deep.WholeRow
import Derived.Laws.Tables
namespace Go.Proofs.YtkaciaehlibidaaGreat
open Go.RowKit
set_option linter.unusedVariables false
set_option linter.unusedSimpArgs false
section
open Go.Shelf
attribute [local go_sem] Oper.semAt_some
theorem fold_abs (hs PD : List Int) (N : Nat) : ∀ k, k ≤ N → ((List.finRange N).take k).foldl (fun hs x => mixF hs ((PD.drop (64 * x.val)).take 64)) hs = (absN k hs PD).1
 | 0, _ => rfl
 | k + 1, h => by
   rw [fin_take N k (by omega), List.foldl_append, fold_abs hs PD N k (by omega), absN_succ]
   rfl
def blkF (PD : List Int) {N : Nat} (hs : List Int) (x : Fin N) : List Int := mixF hs ((PD.drop (64 * x.val)).take 64)
theorem blk_len (PD : List Int) {N : Nat} (hs : List Int) (h : hs.length = 8) (pre : List (Fin N)) : (pre.foldl (blkF PD) hs).length = 8 := by
 induction pre generalizing hs with
 | nil => exact h
 | cons x pre ih => exact ih _ (mixF_len _ _ h)
theorem blk_in (PD : List Int) {N : Nat} (hs : List Int) (h : ∀ j, InU (hs.getD j 0)) (pre : List (Fin N)) : ∀ j, InU ((pre.foldl (blkF PD) hs).getD j 0) := by
 induction pre generalizing hs with
 | nil => exact h
 | cons x pre ih => exact ih _ (mixF_in _ _)
theorem TabOk.own {w w' : World} {tb B : Nat} {row : Option Nat} (h : TabOk w tb) (hg : w.grownBy w' row) (hr : ∀ r, row = some r → B ≤ r) (hB : tb < B) : TabOk w' tb :=
 h.same (hg.block tb h.lt (fun e => by have := hr tb e.symm; omega))
theorem TabOk.isCells {w : World} {tb : Nat} (h : TabOk w tb) {o : Obj} (ho : w.heap[tb]? = some o) : o.isCells = true := by
 rcases h with ⟨_, _, cs, h, _⟩ | ⟨cs, h, _⟩ <;> (rw [h] at ho; cases ho; rfl)
theorem ArrF.isCells {w : World} {b : Nat} {T : TypeId} {n off : Nat} {f : Nat → Int} {c0 : Array Value} (h : ArrF w b T n off f c0) {o : Obj} (ho : w.heap[b]? = some o) : o.isCells = true := by
 obtain ⟨cs, h, _⟩ := h
 rw [h] at ho; cases ho; rfl
theorem agg8_index (s0 s1 s2 s3 s4 s5 s6 s7 : Int) (k : Nat) (hk : k < 8) (wx : World) : (Instr.index 99 (.agg #[.int .u32 s0, .int .u32 s1, .int .u32 s2, .int .u32 s3, .int .u32 s4, .int .u32 s5, .int .u32 s6, .int .u32 s7]) (.int .i64 (k : Int))).run Tryz.prog wx = .ok (.int .u32 ([s0, s1, s2, s3, s4, s5, s6, s7].getD k 0)) wx := by
 have i0 : (Instr.index 99 (.agg #[.int .u32 s0, .int .u32 s1, .int .u32 s2, .int .u32 s3, .int .u32 s4, .int .u32 s5, .int .u32 s6, .int .u32 s7]) (.int .i64 0)).run Tryz.prog wx = .ok (.int .u32 s0) wx := by kernel_rfl
 have i1 : (Instr.index 99 (.agg #[.int .u32 s0, .int .u32 s1, .int .u32 s2, .int .u32 s3, .int .u32 s4, .int .u32 s5, .int .u32 s6, .int .u32 s7]) (.int .i64 1)).run Tryz.prog wx = .ok (.int .u32 s1) wx := by kernel_rfl
 have i2 : (Instr.index 99 (.agg #[.int .u32 s0, .int .u32 s1, .int .u32 s2, .int .u32 s3, .int .u32 s4, .int .u32 s5, .int .u32 s6, .int .u32 s7]) (.int .i64 2)).run Tryz.prog wx = .ok (.int .u32 s2) wx := by kernel_rfl
 have i3 : (Instr.index 99 (.agg #[.int .u32 s0, .int .u32 s1, .int .u32 s2, .int .u32 s3, .int .u32 s4, .int .u32 s5, .int .u32 s6, .int .u32 s7]) (.int .i64 3)).run Tryz.prog wx = .ok (.int .u32 s3) wx := by kernel_rfl
 have i4 : (Instr.index 99 (.agg #[.int .u32 s0, .int .u32 s1, .int .u32 s2, .int .u32 s3, .int .u32 s4, .int .u32 s5, .int .u32 s6, .int .u32 s7]) (.int .i64 4)).run Tryz.prog wx = .ok (.int .u32 s4) wx := by kernel_rfl
 have i5 : (Instr.index 99 (.agg #[.int .u32 s0, .int .u32 s1, .int .u32 s2, .int .u32 s3, .int .u32 s4, .int .u32 s5, .int .u32 s6, .int .u32 s7]) (.int .i64 5)).run Tryz.prog wx = .ok (.int .u32 s5) wx := by kernel_rfl
 have i6 : (Instr.index 99 (.agg #[.int .u32 s0, .int .u32 s1, .int .u32 s2, .int .u32 s3, .int .u32 s4, .int .u32 s5, .int .u32 s6, .int .u32 s7]) (.int .i64 6)).run Tryz.prog wx = .ok (.int .u32 s6) wx := by kernel_rfl
 have i7 : (Instr.index 99 (.agg #[.int .u32 s0, .int .u32 s1, .int .u32 s2, .int .u32 s3, .int .u32 s4, .int .u32 s5, .int .u32 s6, .int .u32 s7]) (.int .i64 7)).run Tryz.prog wx = .ok (.int .u32 s7) wx := by kernel_rfl
 match k, hk with
 | 0, _ => exact i0
 | 1, _ => exact i1
 | 2, _ => exact i2
 | 3, _ => exact i3
 | 4, _ => exact i4
 | 5, _ => exact i5
 | 6, _ => exact i6
 | 7, _ => exact i7
def sliceLen : Value → Nat
 | .slice _ n _ => n
 | _ => 0
def SumPost (w : World) (tb : Nat) (zs : List Int) (e : Ending) (w' : World) : Prop :=
 ∃ g cap, e = .returned (.slice (some ⟨g, 0, none⟩) 32 cap) ∧ TabOk w' tb ∧ w'.ownsRow 0 5 1 (.slice (some ⟨g, 0, none⟩) 32 cap) 32 (zs.map (Value.int .u8)) ∧ zs.length = 32 ∧ Keeps (fun i => i = tb) w w' ∧ w.heap.size ≤ g
set_option maxRecDepth 100000 in
set_option maxHeartbeats 2000000 in
theorem shaSum_any (p tb : Nat) (v : Value) (all : List Int) (w : World) (ht : TabOk w tb) (h : HashAt w p tb all v) (hlen : all.length ≤ 1099511627776) :
 Calls Tryz.prog 120 #[.pointer (some ⟨p, 0, none⟩)] w fun e w' => SumPost w tb (shaF all) e w' := by
 have HTB := Lib.hid ht
 have HH := Lib.hid h
 have HL := Lib.hid hlen
 obtain ⟨hblk, hown, hvp, hvt, hpt, hib⟩ := h
 obtain ⟨vo, vc, rfl⟩ : ∃ vo vc, v = .slice vo (stR all).length vc := by
  rcases hown.2 with ⟨hv, hn⟩ | ⟨g, cap, cur, hv, _⟩
  · exact ⟨none, 0, by rw [hv, hn]⟩
  · exact ⟨_, cap, hv⟩
 have HPT := Lib.hid hpt
 have HRL := Lib.hid (stR_len all)
 have HRA := Lib.hid (owns_at hown).2.1
 have HBL := Lib.hid hblk
 have HHL := Lib.hid hblk.lt
 obtain ⟨w1, hw1⟩ : ∃ w1, w1 = w.alloc (.cells #[.pointer (some ⟨p, 0, none⟩)] 183) := ⟨_, rfl⟩
 have hb1 : Below w.heap.size w w1 := by rw [hw1]; exact (Below.refl _ _).alloc (Nat.le_refl _) _
 have hblk1 : HBlk w1 p tb (stH all) (.slice vo (stR all).length vc) all.length := hblk.same (hb1.block p hblk.lt)
 have hbox1 : w1.heap[w.heap.size]? = some (.cells #[.pointer (some ⟨p, 0, none⟩)] 183 (0, 0)) := by rw [hw1]; exact heap_alloc_new w _
 have hs1 : w1.heap.size = w.heap.size + 1 := by rw [hw1]; simp
 have hw8 := fun j hj => hblk1.words j hj
 obtain ⟨h0, h1, h2, h3, h4, h5, h6, h7, hHS, _⟩ := hblk
 have g0 := hw8 0 (by omega)
 have g1 := hw8 1 (by omega)
 have g2 := hw8 2 (by omega)
 have g3 := hw8 3 (by omega)
 have g4 := hw8 4 (by omega)
 have g5 := hw8 5 (by omega)
 have g6 := hw8 6 (by omega)
 have g7 := hw8 7 (by omega)
 rw [hHS] at g0 g1 g2 g3 g4 g5 g6 g7
 simp only [List.getD_cons_zero, List.getD_cons_succ, Nat.reduceAdd, Nat.add_zero] at g0 g1 g2 g3 g4 g5 g6 g7
 have HHS := Lib.hid hHS
 have kb := blk_cell hbox1 0
 simp only [List.getElem?_toArray, List.getElem?_cons_zero] at kb
 obtain ⟨w2, hw2⟩ : ∃ w2, w2 = w1.alloc (.cells #[.int .u32 h0, .int .u32 h1, .int .u32 h2, .int .u32 h3, .int .u32 h4, .int .u32 h5, .int .u32 h6, .int .u32 h7] 99) := ⟨_, rfl⟩
 have hb2 : Below w1.heap.size w1 w2 := by rw [hw2]; exact (Below.refl _ _).alloc (Nat.le_refl _) _
 have hs2 : w2.heap.size = w.heap.size + 2 := by rw [hw2]; simp; omega
 have HB2 := Lib.hid (hblk1.same (hb2.block p hblk1.lt))
 have HS2 := Lib.hid hs2
 have HX2 : Hid (w2.heap[w.heap.size]? = some (.cells #[.pointer (some ⟨p, 0, none⟩)] 183 (0, 0))) := Lib.hid ((hb2.block w.heap.size (by omega)).trans hbox1)
 have HV2 : Hid (w2.heap[w.heap.size + 1]? = some (.cells #[.int .u32 h0, .int .u32 h1, .int .u32 h2, .int .u32 h3, .int .u32 h4, .int .u32 h5, .int .u32 h6, .int .u32 h7] 99 (0, 0))) := Lib.hid (by
  have := heap_alloc_new w1 (.cells #[.int .u32 h0, .int .u32 h1, .int .u32 h2, .int .u32 h3, .int .u32 h4, .int .u32 h5, .int .u32 h6, .int .u32 h7] 99)
  rw [← hw2, hs1] at this; exact this)
 have HW1 := Lib.hid hw1
 have HW2 := Lib.hid hw2
 have HS1 := Lib.hid hs1
 have HBB : Hid (Below w.heap.size w w2) := Lib.hid (hb1.trans (hb2.mono (by omega)))
 clear ht hlen hown hvp hvt hpt hib hHS hw8 hw1 hw2 hs1 hs2 hb1 hb2 hbox1 hblk1
 refine callsIn_wide.1 (callsIn_of_wp_marks (F := Fence.wide) (n := 9) Tryz.func120 rfl trivial ?_ rfl)
 simp only [Tryz.ntmps120, List.size_toArray, List.length_cons, List.length_nil, Nat.reduceAdd, Nat.reduceSub, Array.replicate_succ, Array.replicate_zero, List.push_toArray, List.append_toArray, List.nil_append, List.cons_append]
 refine wpIn_wide.2 ?_
 go_upto_region 1 with fail
 rw [← HW1.out]
 go_upto_region 2 with fail
 rw [← HW2.out, HS1.out]
 clear g0 g1 g2 g3 g4 g5 g6 g7 kb
 have kb := blk_cell HX2.out 0
 simp only [List.getElem?_toArray, List.getElem?_cons_zero] at kb
 obtain ⟨_, d9, _, _, _⟩ := HB2.out.cells
 obtain ⟨i0, hi, hz0, hz1, hz2⟩ := info_parts Try_infoU8
 have HRA2 : Hid (IntsAt .u8 w2 vo (stR all)) := Lib.hid (ints_below HRA.out HBB.out)
 have HRLE : Hid ((stR all).length ≤ 64) := Lib.hid (by have := HRL.out; omega)
 have HCL := Lib.hid (clone_u8 vo (stR all) _ vc w2 rfl HRA2.out (by have := HRLE.out; omega))
 have HPD := Lib.hid (show padF all = stR all ++ ([128] ++ List.replicate (padN all.length) 0 ++ bytesBE (8 * (all.length : Int) % 18446744073709551616) 8) from rfl)
 have HPL := Lib.hid (padF_len all)
 have HSF := Lib.hid (show shaF all = outF (absF (stH all) (padF all)).1 from rfl)
 have HRB : Hid (InB (stR all)) := Lib.hid (by rw [stR_eq]; exact inB_drop HH.out.2.2.2.2.2 _)
 generalize stR all = R at *
 go_wp2_with fail
 refine HCL.out.mono ?_
 rintro e w3 ⟨ao3, cap3, rfl, hown3, hbel3, hfr3⟩
 have HO3 := Lib.hid hown3
 have HB3 := Lib.hid hbel3
 have HF3 := Lib.hid hfr3
 clear hown3 hbel3 hfr3
 go_wp2_with (at_builtin; refine wpList_append_any rfl _ _ 62 rfl 5 i0 (.int .u8 0) 1 1 Tryz.underlying62 hi hz0 hz1 hz2 rfl (by decide) (.slice ao3 R.length cap3) R.length (R.map (Value.int .u8)) rfl (HO3.out.alloc _) (some ⟨w3.heap.size, 0, none⟩) 1 1 [.int .u8 128] rfl rfl ?c2 (fun ad had => by cases had; exact cell_one_new _ _ _) (by simp [Value.oneCell']) ?c5 ?c6 ?_)
 case c2 => intro e; cases e
 case c5 => have := HRLE.out; unfold maxLen; omega
 case c6 => have := HRLE.out; omega
 intro ao4 cap4 w4 hown hgrow hat hnn
 have HO4 : Hid (w4.ownsRow 0 5 1 (.slice ao4 (R.length + 1) cap4) (R.length + 1) ((R ++ [128]).map (Value.int .u8))) := Lib.hid (by simpa using hown)
 have HB4 : Hid (Below w2.heap.size w2 w4) := Lib.hid ((HB3.out.alloc (by have := HB3.out.size; omega) _).grown hgrow (by have := HB3.out.size; simp; omega) (fun k hk => HF3.out k hk))
 have HF4 : Hid (∀ g, (Value.slice ao4 (R.length + 1) cap4).ownBlock = some g → w2.heap.size ≤ g) := Lib.hid (fun g hg => by
  rcases hat g hg with h | h
  · exact HF3.out g h
  · have := HB3.out.size; omega)
 clear hown hgrow hat hnn kb d9
 go_wp2_with fail
 go_loopw [4] (fun v wr => ∃ (j : Nat) (cur : List Int) (a1 : Option Addr) (c1 : Nat), j ≤ padN all.length ∧ cur = R ++ ([128] ++ List.replicate j 0) ∧ v = .slice a1 cur.length c1 ∧ wr.ownsRow 0 5 1 (.slice a1 cur.length c1) cur.length (cur.map (Value.int .u8)) ∧ Below w2.heap.size w2 wr ∧ (∀ g, (Value.slice a1 cur.length c1).ownBlock = some g → w2.heap.size ≤ g)) (fun v _ => 200 - sliceLen v)
 case atStart => exact ⟨0, R ++ [128], ao4, cap4, Nat.zero_le _, by simp, by simp, by simpa using HO4.out, HB4.out, by simpa using HF4.out⟩
 case round =>
  obtain ⟨j, cur, a1, c1, hj, hc, rfl, ho, hb, hf⟩ := hrel
  have HJ := Lib.hid hj
  have HC := Lib.hid hc
  have HO := Lib.hid ho
  have HB := Lib.hid hb
  have HF := Lib.hid hf
  have HLC : Hid (cur.length = R.length + 1 + j) := Lib.hid (by rw [hc]; simp; omega)
  clear hj hc ho hb hf
  by_cases hlt : j < padN all.length
  · have hne : ((cur.length : Int) % 64 != 56) = true := by
     have h1 := HLC.out
     have h2 := HRL.out
     unfold padN at hlt
     rw [bne_iff_ne]; omega
    go_wp2_with (at_builtin; refine wpList_append_any rfl _ _ 62 rfl 5 i0 (.int .u8 0) 1 1 Tryz.underlying62 hi hz0 hz1 hz2 rfl (by decide) (.slice a1 cur.length c1) cur.length (cur.map (Value.int .u8)) rfl (HO.out.alloc _) (some ⟨wr.heap.size, 0, none⟩) 1 1 [.int .u8 0] rfl rfl ?c2 (fun ad had => by cases had; exact cell_one_new _ _ _) (by simp [Value.oneCell']) ?c5 ?c6 ?_)
    case c2 => intro e; cases e
    case c5 => have := HRLE.out; have := HLC.out; unfold padN at hlt; unfold maxLen; omega
    case c6 => have := HRLE.out; have := HLC.out; unfold padN at hlt; omega
    intro ao' cap' w5 hown hgrow hat hnn
    have HO5 : Hid (w5.ownsRow 0 5 1 (.slice ao' (cur.length + 1) cap') (cur.length + 1) ((cur ++ [0]).map (Value.int .u8))) := Lib.hid (by simpa using hown)
    have HB5 : Hid (Below w2.heap.size w2 w5) := Lib.hid ((HB.out.alloc (by have := HB.out.size; omega) _).grown hgrow (by have := HB.out.size; simp; omega) (fun k hk => HF.out k hk))
    have HF5 : Hid (∀ g, (Value.slice ao' (cur.length + 1) cap').ownBlock = some g → w2.heap.size ≤ g) := Lib.hid (fun g hg => by
     rcases hat g hg with h | h
     · exact HF.out g h
     · have := HB.out.size; omega)
    have HC5 : Hid (cur ++ [0] = R ++ ([128] ++ List.replicate (j + 1) 0)) := Lib.hid (by rw [HC.out, List.replicate_succ']; simp)
    clear hown hgrow hat hnn hne
    go_wp2
    go_roundw
    case rel => first | exact ⟨j + 1, cur ++ [0], ao', cap', by omega, HC5.out, by simp, by simpa using HO5.out, HB5.out, by simpa using HF5.out⟩ | ((repeat apply Exists.intro); refine ⟨?_, rfl⟩; exact ⟨j + 1, cur ++ [0], ao', cap', by omega, HC5.out, by simp, by simpa using HO5.out, HB5.out, by simpa using HF5.out⟩)
    case measure => have := HLC.out; have := HRLE.out; unfold padN at hlt; simp [sliceLen]; try omega
  · obtain rfl : j = padN all.length := by have := HJ.out; omega
    have hne : ((cur.length : Int) % 64 != 56) = false := by
     have h1 := HLC.out
     have h2 := HRL.out
     unfold padN at h1
     rw [bne_eq_false_iff_eq]; omega
    obtain ⟨N, HN⟩ : ∃ N : Nat, Hid (cur.length + 8 = 64 * N ∧ 0 < N ∧ N ≤ 2) := ⟨(cur.length + 8) / 64, Lib.hid (by
     have h1 := HLC.out
     have h2 := HRL.out
     unfold padN at h1
     omega)⟩
    have HBR := Lib.hid (HB2.out.same (HB.out.block p HB2.out.lt))
    obtain ⟨_, _, q10, _, _⟩ := HBR.out.cells
    have kb : wr.cell? ⟨w.heap.size, 0, none⟩ = some (.pointer (some ⟨p, 0, none⟩)) := by
     have := HB.out.block w.heap.size (by have := HS2.out; omega)
     have hx := blk_cell (this.trans HX2.out) 0
     simpa using hx
    have HLY := Lib.hid (lays_any a1 cur cur.length c1 (8 * (all.length : Int) % 18446744073709551616) 8 wr rfl (by omega) (by omega) (by omega) HO.out (by have := HN.out; omega))
    have ew : IntKind.u64.wrap (8 * (all.length : Int)) = 8 * (all.length : Int) % 18446744073709551616 := by rw [IntKind.wrap_u64]
    have HPF : Hid (cur ++ bytesBE (8 * (all.length : Int) % 18446744073709551616) 8 = padF all) := Lib.hid (by rw [HPD.out, HC.out]; simp)
    rw [HPF.out] at HLY
    generalize padF all = PD at *
    have HPB : Hid (InB PD) := Lib.hid (by rw [← HPF.out, HC.out]; exact inB_app (inB_app HRB.out (inB_app (fun z hz => by simp at hz; omega) (fun z hz => by rw [List.mem_replicate] at hz; omega))) (bytesBE_inB _ _))
    have HPN : Hid (PD.length = 64 * N) := Lib.hid (by rw [← HPF.out, List.length_append, bytesBE_len]; exact HN.out.1)
    clear hne hlt
    have hne : ((cur.length : Int) % 64 != 56) = false := by
     have h1 := HN.out
     rw [bne_eq_false_iff_eq]; omega
    go_wp2_with fail
    refine HLY.out.mono ?_
    rintro e w6 ⟨ao6, cap6, rfl, hown6, hk6, hf6⟩
    obtain ⟨g, rfl⟩ : ∃ g, ao6 = some ⟨g, 0, none⟩ := by
     rcases hown6.2 with ⟨hv, hn⟩ | ⟨g, cap', cur', hv, _⟩
     · have := HPN.out; have := HN.out; omega
     · simp only [Value.slice.injEq] at hv; exact ⟨g, hv.1⟩
    obtain ⟨_, hra6, hc6, hm6⟩ := owns_at hown6
    have HRA6 := Lib.hid hra6
    have HG6 : Hid (w2.heap.size ≤ g ∧ g < w6.heap.size) := Lib.hid ⟨by
     rcases hf6 g rfl with h | h
     · exact HF.out g h
     · have := HB.out.size; omega, (hown6.lt g rfl).2⟩
    have HC6 := Lib.hid (And.intro hc6 hm6)
    have HB6 : Hid (Below w2.heap.size w2 w6) := Lib.hid (HB.out.trans (hk6.below HB.out.size (fun k hk => HF.out k hk)))
    have HCH := Lib.hid (fun wx => chunk_any (some ⟨g, 0, none⟩) PD.length cap6 wx)
    clear hown6 hk6 hf6 hra6 hc6 hm6 q10 kb ew
    go_wp2_with fail
    refine (HCH.out w6).mono ?_
    rintro e w7 ⟨rfl, hw7⟩
    have HW7 := Lib.hid hw7
    have hs7 : w7.heap.size = w6.heap.size + 2 := by rw [hw7]; simp
    have hb67 : Below w6.heap.size w6 w7 := by rw [hw7]; exact ((Below.refl _ _).alloc (Nat.le_refl _) _).alloc (by simp) _
    have HB7 : Hid (Below w2.heap.size w2 w7) := Lib.hid (HB6.out.trans (hb67.mono HB6.out.size))
    have k1 : w7.cell? ⟨w6.heap.size, 0, none⟩ = some (.slice (some ⟨g, 0, none⟩) PD.length cap6) := by
     have h1 := heap_alloc_new w6 (.cells #[.slice (some ⟨g, 0, none⟩) PD.length cap6] 62)
     have h2 : w7.heap[w6.heap.size]? = some (.cells #[.slice (some ⟨g, 0, none⟩) PD.length cap6] 62 (0, 0)) := by rw [hw7]; exact (Below.heap_alloc _ _ _ (by simp)).trans h1
     have := blk_cell h2 0
     simpa using this
    have k2 : w7.cell? ⟨w6.heap.size + 1, 0, none⟩ = some (.int .i64 64) := by
     have h1 := heap_alloc_new (w6.alloc (.cells #[.slice (some ⟨g, 0, none⟩) PD.length cap6] 62)) (.cells #[.int .i64 64] 3)
     rw [← hw7, World.size_alloc] at h1
     have := blk_cell h1 0
     simpa using this
    have HS7 := Lib.hid hs7
    have hsz2 := HS2.out
    have hsz6 := HB6.out.size
    have HT2 : Hid (TabOk w2 tb) := Lib.hid (HTB.out.below HBB.out)
    have htl : tb < w.heap.size := HTB.out.lt
    have hpl : p < w.heap.size := HHL.out
    have HT7 : Hid (TabOk w7 tb) := Lib.hid (HT2.out.same (HB7.out.block tb (by omega)))
    have HHB7 := Lib.hid (HB2.out.same (HB7.out.block p (by omega)))
    have HX7 := Lib.hid ((HB7.out.block w.heap.size (by omega)).trans HX2.out)
    have HV7 := Lib.hid ((HB7.out.block (w.heap.size + 1) (by omega)).trans HV2.out)
    have HA7 : Hid (ArrF w7 (w.heap.size + 1) 99 8 0 (fun j => (stH all).getD j 0) #[.int .u32 h0, .int .u32 h1, .int .u32 h2, .int .u32 h3, .int .u32 h4, .int .u32 h5, .int .u32 h6, .int .u32 h7]) := Lib.hid (by
     refine ArrF.of HV7.out (by simp) (fun j hj => ?_)
     rw [HHS.out]
     match j, hj with
     | 0, _ => rfl
     | 1, _ => rfl
     | 2, _ => rfl
     | 3, _ => rfl
     | 4, _ => rfl
     | 5, _ => rfl
     | 6, _ => rfl
     | 7, _ => rfl)
    obtain ⟨c0, hc0⟩ : ∃ c0 : Array Value, c0 = #[.int .u32 h0, .int .u32 h1, .int .u32 h2, .int .u32 h3, .int .u32 h4, .int .u32 h5, .int .u32 h6, .int .u32 h7] := ⟨_, rfl⟩
    rw [← hc0] at HA7
    clear hc0
    have HST := Lib.hid (chunk_stops 8 (by omega) w6.heap.size (w6.heap.size + 1) g 0 cap6 PD.length N HPN.out HC6.out.1 (by have := HPN.out; have := HN.out; omega) w7 (by omega) (by omega) k1 k2)
    clear hw7 hb67 k1 k2
    go_wp2_with fail
    refine (wpIn_wide (n := 9)).1 ?_
    refine wpIn_rangeFunc_ownF (F := Fence.wide) rfl (by omega) (gf := 138) (lb := #[.pointer (some ⟨w6.heap.size, 0, none⟩), .pointer (some ⟨w6.heap.size + 1, 0, none⟩)]) rfl trivial (enters_of Tryz.func138 (by kernel_rfl) rfl)
     HST.out KpB.trans (fun W l o o' hl _ _ _ => ⟨World.putObj_heap_other (by omega), World.putObj_heap_other (by omega)⟩) (Below.refl _ _) (fun _ => rfl)
     (fun pre W => Keeps (fun i => i = tb ∨ i = w.heap.size + 1) w7 W ∧ TabOk W tb ∧ ArrF W (w.heap.size + 1) 99 8 0 (fun j => (pre.foldl (blkF PD) (stH all)).getD j 0) c0)
     (fun _ _ _ => False)
     (fun s A B row hs hg hr => ⟨hs.1.grown hg (fun k e => Or.inr (hr k e).1), hs.2.1.own hg (fun r e => (hr r e).1) (by omega), hs.2.2.same (hg.block _ hs.2.2.lt (fun e => by have := (hr _ e.symm).1; omega))⟩)
     (fun _ _ _ _ _ hs _ _ => hs)
     ⟨Keeps.refl _ _, HT7.out, HA7.out⟩
     ?a1 ?assign ?body ?done ?stop
    case assign =>
     intro l x W K hK
     gi_wp2
     exact hK
    case body =>
     rintro l pre x W ⟨hk, ht, ha⟩ _
     have hx : x.val < N := x.isLt
     have kb : W.cell? ⟨w.heap.size, 0, none⟩ = some (.pointer (some ⟨p, 0, none⟩)) := by
      have h1 := (hk.block w.heap.size (by omega) (by omega)).trans HX7.out
      have := blk_cell h1 0
      simpa using this
     have kp : W.cell? ⟨p, 0, none⟩ = some (.pointer (some ⟨tb, 0, none⟩)) := (HHB7.out.same (hk.block p (by omega) (by have := HPT.out; omega))).cells.1
     have hgl := HG6.out
     have hrw : IntsAt .u8 W (some ⟨g, 0, none⟩) PD := by
      refine HRA6.out.same (fun a ha hl => ?_)
      cases ha
      rw [hk.block g (by omega) (by omega), HW7.out]
      exact (Below.heap_alloc _ _ _ (by simp; omega)).trans (Below.heap_alloc _ _ _ (by omega))
     have HMX := Lib.hid (mix_any tb (w.heap.size + 1) 0 99 (some ⟨g, 64 * x.val, none⟩) ((PD.drop (64 * x.val)).take 64) 64 (pre.foldl (blkF PD) (stH all)) W ht (blk_len PD _ (stH_len all) pre) (by omega) c0 ha (blk_in PD _ (stH_in all) pre) (by have := HPN.out; simp; omega) (by have := hrw.drop (64 * x.val); rw [Nat.zero_add] at this; exact this.take 64) (inB_take (inB_drop HPB.out _) _) (Nat.le_refl _))
     have HK := Lib.hid hk
     have HT := Lib.hid ht
     have HA := Lib.hid ha
     clear hk ht ha hrw
     unfold chunkV
     gi_wp2_with (refine ⟨trivial, ?_⟩; gi_at_call 129; refine (CallsIn.inRound l (callsIn_wide.2 HMX.out)).mono ?_; rintro e W3 ⟨rfl, ht3, ha3, hk3⟩)
     refine ⟨⟨hk3.size, fun k o hko hoc => (hk3.block k (blk_lt hko) (fun h => ?_)).trans hko⟩, ⟨hk3.block _ (by have := HK.out.size; omega) (by omega), hk3.block _ (by have := HK.out.size; omega) (by omega)⟩, HK.out.trans hk3 (fun i h => Or.inl h), ht3, ?_⟩
     · rcases h with h | h
       · subst h; rw [HT.out.isCells hko] at hoc; cases hoc
       · subst h; rw [HA.out.isCells hko] at hoc; cases hoc
     · rw [List.foldl_append]; exact ha3
    case done =>
     rintro D ys W hD rfl ⟨hk, ht, ha⟩ hK
     have HK := Lib.hid hk
     have HT := Lib.hid ht
     have HKD := Lib.hid hK
     have HFS : Hid ((List.finRange N).foldl (blkF PD) (stH all) = (absF (stH all) PD).1) := Lib.hid (by
      have h1 := fold_abs (stH all) PD N N (Nat.le_refl _)
      rw [List.take_of_length_le (by simp)] at h1
      refine h1.trans ?_
      unfold absF
      rw [HPN.out, show 64 * N / 64 = N by omega])
     rw [HFS.out] at ha
     obtain ⟨HS, hHS⟩ : ∃ HS, HS = (absF (stH all) PD).1 := ⟨_, rfl⟩
     have H8 : Hid (HS.length = 8) := Lib.hid (by rw [hHS]; exact absN_len _ _ _ (stH_len all))
     have H8I : Hid (∀ j, InU (HS.getD j 0)) := Lib.hid (by rw [hHS]; exact absN_in _ _ _ (stH_in all))
     have HSF2 : Hid (shaF all = outF HS) := Lib.hid (by rw [HSF.out, hHS])
     rw [← hHS] at ha
     have HA := Lib.hid ha
     clear hk ht ha hK hHS HFS
     gi_wp2
     obtain ⟨s0, s1, s2, s3, s4, s5, s6, s7, rfl⟩ : ∃ s0 s1 s2 s3 s4 s5 s6 s7, HS = [s0, s1, s2, s3, s4, s5, s6, s7] := by
      have := H8.out
      match HS, this with
      | [s0, s1, s2, s3, s4, s5, s6, s7], _ => exact ⟨s0, s1, s2, s3, s4, s5, s6, s7, rfl⟩
     have g0 := (HA.out.cell 0 (by omega)).1
     have g1 := (HA.out.cell 1 (by omega)).1
     have g2 := (HA.out.cell 2 (by omega)).1
     have g3 := (HA.out.cell 3 (by omega)).1
     have g4 := (HA.out.cell 4 (by omega)).1
     have g5 := (HA.out.cell 5 (by omega)).1
     have g6 := (HA.out.cell 6 (by omega)).1
     have g7 := (HA.out.cell 7 (by omega)).1
     simp only [List.getD_cons_zero, List.getD_cons_succ, Nat.zero_add] at g0 g1 g2 g3 g4 g5 g6 g7
     have HIX : Hid (∀ (k : Nat), k < 8 → ∀ wx, (Instr.index 99 (.agg #[.int .u32 s0, .int .u32 s1, .int .u32 s2, .int .u32 s3, .int .u32 s4, .int .u32 s5, .int .u32 s6, .int .u32 s7]) (.int .i64 (k : Int))).run Tryz.prog wx = .ok (.int .u32 ([s0, s1, s2, s3, s4, s5, s6, s7].getD k 0)) wx) := Lib.hid (by
      exact fun k hk wx => agg8_index s0 s1 s2 s3 s4 s5 s6 s7 k hk wx)
     generalize hHS : [s0, s1, s2, s3, s4, s5, s6, s7] = HS at *
     clear hHS
     go_wp2_with fail
     go_loopw [6, 44] (fun v i wq => ∃ (k : Nat) (a2 : Option Addr) (c2 : Nat), k ≤ 8 ∧ i = .int .i64 k ∧ v = .slice a2 (4 * k) c2 ∧ wq.ownsRow 0 5 1 (.slice a2 (4 * k) c2) (4 * k) ((outF (HS.take k)).map (Value.int .u8)) ∧ Below W.heap.size W wq ∧ (∀ g, (Value.slice a2 (4 * k) c2).ownBlock = some g → W.heap.size ≤ g)) (fun _ i _ => 8 - (intOf i).toNat)
     case atStart => exact ⟨0, none, 0, Nat.zero_le _, rfl, rfl, World.ownsRow_nil _ _ _ _, Below.refl _ _, fun g hg => by cases hg⟩
     case round =>
      obtain ⟨k, a2, c2, hk, rfl, rfl, ho, hb, hf⟩ := hrel
      have HO9 := Lib.hid ho
      have HB9 := Lib.hid hb
      have HF9 := Lib.hid hf
      clear ho hb hf
      by_cases hlt : k < 8
      · have j1 : (k : Int) < 8 := by omega
        have hix := HIX.out k hlt
        have HZ := Lib.hid (H8I.out k)
        have HZ8 : Hid (outF (HS.take k) ++ bytesBE (HS.getD k 0) 4 = outF (HS.take (k + 1))) := Lib.hid (by
         have hl : k < HS.length := by rw [H8.out]; exact hlt
         unfold outF
         rw [List.take_succ_eq_append_getElem hl, List.flatMap_append]
         congr 1
         simp [List.getD, List.getElem?_eq_getElem hl])
        have HLY := Lib.hid (lays_any a2 (outF (HS.take k)) (4 * k) c2 (HS.getD k 0) 4 wr (by rw [outF_len, List.length_take, H8.out]; omega) HZ.out.1 (by have := HZ.out.2; omega) (by omega) HO9.out (by omega))
        rw [HZ8.out] at HLY
        have HOL : Hid ((outF (HS.take (k + 1))).length = 4 * (k + 1)) := Lib.hid (by rw [outF_len, List.length_take, H8.out]; omega)
        have ew : IntKind.u64.wrap (HS.getD k 0) = HS.getD k 0 := by have h1 := HZ.out.1; have h2 := HZ.out.2; rw [IntKind.wrap_u64]; omega
        generalize HS.getD k 0 = z at *
        go_wp2_with fail
        refine HLY.out.mono ?_
        rintro e w9 ⟨ao9, cap9, rfl, hown9, hk9, hf9⟩
        rw [HOL.out] at hown9 hf9 ⊢
        have HO10 := Lib.hid hown9
        have HB10 : Hid (Below W.heap.size W w9) := Lib.hid (HB9.out.trans (hk9.below HB9.out.size (fun i hi => HF9.out i hi)))
        have HF10 : Hid (∀ g, (Value.slice ao9 (4 * (k + 1)) cap9).ownBlock = some g → W.heap.size ≤ g) := Lib.hid (fun g hg => by
         rcases hf9 g hg with h | h
         · exact HF9.out g h
         · have := HB9.out.size; omega)
        clear hown9 hk9 hf9
        go_wp2_with fail
        go_roundw
        case rel => first | exact ⟨k + 1, ao9, cap9, by omega, by go_num, rfl, HO10.out, HB10.out, HF10.out⟩ | ((repeat apply Exists.intro); refine ⟨?_, rfl⟩; exact ⟨k + 1, ao9, cap9, by omega, by go_num, rfl, HO10.out, HB10.out, HF10.out⟩)
        case measure => simp [intOf]; omega
      · obtain rfl : k = 8 := by omega
        have HOE : Hid (wr.ownsRow 0 5 1 (.slice a2 32 c2) 32 ((shaF all).map (Value.int .u8))) := Lib.hid (by
         have h1 := HO9.out
         rw [List.take_of_length_le (by rw [H8.out]; exact Nat.le_refl _), ← HSF2.out] at h1
         exact h1)
        obtain ⟨g2, rfl⟩ : ∃ g2, a2 = some ⟨g2, 0, none⟩ := by
         rcases HOE.out.2 with ⟨hv, hn⟩ | ⟨g, cap', cur', hv, _⟩
         · omega
         · simp only [Value.slice.injEq] at hv; exact ⟨g, hv.1⟩
        have HKD2 := Lib.hid ((HB9.out.block D (blk_lt HKD.out)).trans HKD.out)
        have HDL := Lib.hid hD
        have HKF : Hid (Keeps (fun i => i = tb) w wr) := Lib.hid ((((Keeps.of_below (S := fun i => i = tb) HBB.out).trans (Keeps.of_below (S := fun _ => False) HB7.out) (fun _ h => h.elim)).trans HK.out (fun i h => h.imp id (fun e => by omega))).trans (Keeps.of_below (S := fun _ => False) HB9.out) (fun _ h => h.elim))
        have HT9 := Lib.hid (HT.out.below HB9.out)
        have HGE : Hid (w.heap.size ≤ g2) := Lib.hid (by have := HF9.out g2 rfl; have := HK.out.size; omega)
        go_wp2_with fail
        refine ⟨by simp, .inl ⟨_, _, rfl, run_takeDeferred HKD2.out, ?_⟩⟩
        have hDl : w.heap.size ≤ D := by have := HDL.out; omega
        refine ⟨_, results_tmp rfl _ _ _, g2, c2, rfl, HT9.out.same (World.putObj_heap_other (by omega)), ownsRow_putObj HOE.out _ HKD2.out rfl, by simp [shaF_len], HKF.out.grown (grownBy_putObj' _ _ _) (fun k e => by cases e; exact Or.inr hDl), HGE.out⟩
    case stop =>
     rintro D c pre W _ _ h _
     exact h.elim
end
set_option maxHeartbeats 1000000 in
theorem turn_any (x : Int) (r : Nat) (hx : InU x) (h1 : 1 ≤ r) (h2 : r ≤ 31) (w : World) :
 Calls Tryz.prog 132 #[.int .u32 x, .int .u64 r] w fun e w' => e = .returned (.int .u32 (rotI x r)) ∧ w = w' := by
 have e0 : IntKind.u64.wrap (32 - (r : Int)) = ((32 - r : Nat) : Int) := by rw [IntKind.wrap_u64]; omega
 have e1 : (((32 - r : Nat) : Int)).toNat = 32 - r := by omega
 have b1 : (((32 - r : Nat) : Int)) ≤ 32 := by omega
 have b2 : (0 : Int) ≤ (((32 - r : Nat) : Int)) := by omega
 have b3 : (r : Int) ≤ 32 := by omega
 have HR : Hid (bits .or .u32 (x / 2 ^ r) (x * 2 ^ (32 - r) % 4294967296) = rotI x r) := Lib.hid (by
  obtain ⟨n, rfl⟩ := Int.eq_ofNat_of_zero_le hx.1
  have hn : n < 4294967296 := by have := hx.2; omega
  unfold rotI
  have e1 : ((n : Int) * 2 ^ (32 - r) % 4294967296) = ((n * 2 ^ (32 - r) % 4294967296 : Nat) : Int) := by simp
  have e2 : ((n : Int) / 2 ^ r) = ((n / 2 ^ r : Nat) : Int) := by simp
  rw [e1, e2, u32_or_nat _ _ (Nat.lt_of_le_of_lt (Nat.div_le_self _ _) hn) (by omega), u32_or_nat _ _ (by omega) (Nat.lt_of_le_of_lt (Nat.div_le_self _ _) hn), Nat.or_comm])
 go_enter Tryz.func132, Tryz.ntmps132
 go_wp2
 go_ret
 exact ⟨ret_int HR.out, rfl⟩
def startsV : Array Value := ((List.range 8).map fun j => Value.int .u32 (hAt j)).toArray
theorem startsV_size : startsV.size = 8 := by simp [startsV]
theorem startsV_at (j : Nat) (h : j < 8) : startsV[j]? = some (.int .u32 (hAt j)) := by
 unfold startsV
 simp [h]
theorem startsV_one : startsV.all (·.oneCell') = true := by
 rw [Array.all_eq_true_iff_forall_mem]
 intro v hv
 simp [startsV] at hv
 obtain ⟨j, _, rfl⟩ := hv
 rfl
set_option maxHeartbeats 1000000 in
set_option maxRecDepth 100000 in
theorem starts_any (w : World) :
 Calls Tryz.prog 123 #[] w fun e w' => e = .returned (.agg startsV) ∧ Below w.heap.size w w' := by
 go_enter Tryz.func123, Tryz.ntmps123
 go_wp2_with (refine wpList_build rfl _ _ rfl (by kernel_rfl) ?_)
 generalize hkw : (Program.built _ _ _).getD #[] = kw
 have hk : kw = startsV := by rw [← hkw]; kernel_rfl
 clear hkw
 subst hk
 rw [run_storeCells_new w 99 _ startsV (by rw [startsV_size]; kernel_rfl) (by rw [startsV_size]; kernel_rfl) startsV_one]
 go_wp2
 refine bodyPost_ret (results_cell_row (P := Tryz.prog) (fn := Tryz.f123) (p := 0) (ty := 99) rfl _ _ w.heap.size 99 startsV (0, 0) _ rfl (heap_alloc_new w _) Tryz.underlying99 rfl (by rw [startsV_size]; kernel_rfl)) rfl ?_
 exact ⟨rfl, (Below.refl _ _).alloc (Nat.le_refl _) _⟩
def wordsV : Array Value := ((List.range 64).map fun j => Value.int .u32 (kAt j)).toArray
theorem wordsV_size : wordsV.size = 64 := by simp [wordsV]
theorem wordsV_at (j : Nat) (h : j < 64) : wordsV[j]? = some (.int .u32 (kAt j)) := by
 unfold wordsV
 simp [h]
theorem wordsV_one : wordsV.all (·.oneCell') = true := by
 rw [Array.all_eq_true_iff_forall_mem]
 intro v hv
 simp [wordsV] at hv
 obtain ⟨j, _, rfl⟩ := hv
 rfl
set_option maxHeartbeats 1000000 in
set_option maxRecDepth 100000 in
theorem words_any (w : World) :
 Calls Tryz.prog 122 #[] w fun e w' => e = .returned (.agg wordsV) ∧ Below w.heap.size w w' := by
 go_enter Tryz.func122, Tryz.ntmps122
 go_wp2_with (refine wpList_build rfl _ _ rfl (by kernel_rfl) ?_)
 generalize hkw : (Program.built _ _ _).getD #[] = kw
 have hk : kw = wordsV := by rw [← hkw]; kernel_rfl
 clear hkw
 subst hk
 rw [run_storeCells_new w 98 _ wordsV (by rw [wordsV_size]; kernel_rfl) (by rw [wordsV_size]; kernel_rfl) wordsV_one]
 go_wp2
 refine bodyPost_ret (results_cell_row (P := Tryz.prog) (fn := Tryz.f122) (p := 0) (ty := 98) rfl _ _ w.heap.size 98 wordsV (0, 0) _ rfl (heap_alloc_new w _) Tryz.underlying98 rfl (by rw [wordsV_size]; kernel_rfl)) rfl ?_
 exact ⟨rfl, (Below.refl _ _).alloc (Nat.le_refl _) _⟩
end Go.Proofs.YtkaciaehlibidaaGreat
