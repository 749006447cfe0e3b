/- Contract of cflref1.Hash. -/
import Derived.Test.YtkaciaehlibidaaGreatShaR2
namespace Go.Proofs.YtkaciaehlibidaaGreat
open Go.RowKit
set_option linter.unusedVariables false
set_option linter.unusedSimpArgs false

def tailF (all : List Int) : List Int := [128] ++ List.replicate (padN all.length) 0 ++ bytesBE (8 * (all.length : Int) % 18446744073709551616) 8
theorem shaF_ref (all : List Int) : shaF all = outF (absF hInit (all ++ tailF all)).1 := by
  rw [absF_app]
  rfl
theorem tail_len (all : List Int) : (all ++ tailF all).length % 64 = 0 := by
  unfold tailF padN
  simp only [List.length_append, bytesBE_len, List.length_replicate, List.length_cons, List.length_nil]
  omega

set_option maxRecDepth 100000 in
set_option maxHeartbeats 4000000 in
theorem rhash_any (ao : Option Addr) (zs : List Int) (n cap : Nat) (w : World) (hn : zs.length = n) (h : IntsAt .u8 w ao zs) (hB : InB zs) (hlen : n ≤ 1099511627776) :
    Calls Tryz.prog 114 #[.slice ao n cap] w fun e w' => RowPost w (shaF zs) e w' := by
  have HN := Lib.hid hn
  have HZ := Lib.hid h
  have HBY := Lib.hid hB
  have HL := Lib.hid hlen
  have HSF := Lib.hid (shaF_ref zs)
  have HTL := Lib.hid (tail_len zs)
  obtain ⟨i0, hi, hz0, hz1, hz2⟩ := info_parts Try_infoU8
  clear hn h hB hlen
  go_enter Tryz.func114, Tryz.ntmps114
  go_wp2_with fail
  refine (words_any w).mono ?_
  rintro e w1 ⟨rfl, hb1⟩
  have HB1 := Lib.hid hb1
  go_wp2_with fail
  refine (starts_any w1).mono ?_
  rintro e w2 ⟨rfl, hb2⟩
  have HB2 : Hid (Below w.heap.size w w2) := Lib.hid (HB1.out.trans (hb2.mono HB1.out.size))
  clear hb1 hb2
  go_wp2_with (first
    | (refine wpList_store_row rfl 98 _ _ rfl w2.heap.size wordsV rfl rfl 98 za (heap_alloc2_old _ _ _) (by rw [wordsV_size]; kernel_rfl) (by rw [wordsV_size, za_size]) wordsV_one ?_)
    | (refine wpList_store_row rfl 99 _ _ rfl (w2.heap.size + 1) startsV rfl rfl 99 _ ((setRow_other _ _ _ _ (by omega)).trans (heap_alloc2_new _ _ _)) (by rw [startsV_size]; kernel_rfl) (by rw [startsV_size]; rfl) startsV_one ?_))
  obtain ⟨w5, hw5⟩ : ∃ w5, w5 = (((w2.alloc (.cells za 98)).alloc (.cells #[.int .u32 0, .int .u32 0, .int .u32 0, .int .u32 0, .int .u32 0, .int .u32 0, .int .u32 0, .int .u32 0] 99)).setRow w2.heap.size wordsV).setRow (w2.heap.size + 1) startsV := ⟨_, rfl⟩
  have hk5 : w5.heap[w2.heap.size]? = some (.cells wordsV 98 (0, 0)) := by
    rw [hw5, setRow_other _ _ _ _ (by omega)]
    exact setRow_heap _ _ _ _ _ _ (heap_alloc2_old _ _ _)
  have hh5 : w5.heap[w2.heap.size + 1]? = some (.cells startsV 99 (0, 0)) := by
    rw [hw5]
    exact setRow_heap _ _ _ _ _ _ ((setRow_other _ _ _ _ (by omega)).trans (heap_alloc2_new _ _ _))
  have hb5 : Below w2.heap.size w2 w5 := by
    have h1 : Below w2.heap.size w2 ((w2.alloc (.cells za 98)).alloc (.cells #[.int .u32 0, .int .u32 0, .int .u32 0, .int .u32 0, .int .u32 0, .int .u32 0, .int .u32 0, .int .u32 0] 99)) := ((Below.refl _ _).alloc (Nat.le_refl _) _).alloc (by simp) _
    rw [hw5]
    exact ⟨h1.os, h1.tape, h1.output, by have := h1.size; simp only [World.setRow, Array.size_modify]; exact this, fun k hk => (setRow_other _ _ _ _ (by omega)).trans ((setRow_other _ _ _ _ (by omega)).trans (h1.block k hk))⟩
  have HK5 : Hid (ArrAt w5 w2.heap.size 98 64 0 kAt) := Lib.hid ⟨_, hk5, by rw [wordsV_size]; omega, fun j hj => by rw [Nat.zero_add]; exact wordsV_at j hj⟩
  have HH5 : Hid (ArrF w5 (w2.heap.size + 1) 99 8 0 (fun j => hInit.getD j 0) startsV) := Lib.hid (ArrF.of hh5 (by rw [startsV_size]; omega) (fun j hj => by
    rw [Nat.zero_add, startsV_at j hj]
    match j, hj with
    | 0, _ => rfl
    | 1, _ => rfl
    | 2, _ => rfl
    | 3, _ => rfl
    | 4, _ => rfl
    | 5, _ => rfl
    | 6, _ => rfl
    | 7, _ => rfl))
  have HB5 : Hid (Below w.heap.size w w5) := Lib.hid (HB2.out.trans (hb5.mono HB2.out.size))
  have HS2 := Lib.hid HB2.out.size
  have HS5 : Hid (w2.heap.size + 1 < w5.heap.size) := Lib.hid (blk_lt hh5)
  unfold za at hw5
  rw [← hw5]
  clear hw5 hk5 hh5 hb5
  generalize w2.heap.size = B2 at *
  clear HB1 HB2
  have HCP := Lib.hid (copyBytes ao zs n cap w5 HN.out (ints_below HZ.out HB5.out) (by have := HL.out; omega))
  refine HCP.out.mono ?_
  rintro e w6 ⟨ao6, cap6, rfl, hown6, hbel6, hfr6⟩
  rw [HN.out] at hown6 hfr6 ⊢
  have HO6 := Lib.hid hown6
  have HB6 := Lib.hid hbel6
  have HF6 := Lib.hid hfr6
  clear hown6 hbel6 hfr6
  go_wp2_with (at_builtin; refine wpList_append_any rfl _ _ 62 rfl 5 i0 (.int .u8 0) 1 1 Tryz.underlying62 hi hz0 hz1 hz2 rfl (by decide) (.slice ao6 n cap6) n (zs.map (Value.int .u8)) rfl (HO6.out.alloc _) (some ⟨w6.heap.size, 0, none⟩) 1 1 [.int .u8 128] rfl rfl ?c2 (fun ad had => by cases had; exact cell_one_new _ _ _) (by simp [Value.oneCell']) ?c5 ?c6 ?_)
  case c2 => intro e; cases e
  case c5 => have := HL.out; unfold maxLen; omega
  case c6 => have := HL.out; omega
  intro ao7 cap7 w7 hown hgrow hat hnn
  have HO7 : Hid (w7.ownsRow 0 5 1 (.slice ao7 (n + 1) cap7) (n + 1) ((zs ++ [128]).map (Value.int .u8))) := Lib.hid (by simpa using hown)
  have HB7 : Hid (Below w5.heap.size w5 w7) := Lib.hid ((HB6.out.alloc (by have := HB6.out.size; omega) _).grown hgrow (by have := HB6.out.size; simp; omega) (fun k hk => HF6.out k hk))
  have HF7 : Hid (∀ g, (Value.slice ao7 (n + 1) cap7).ownBlock = some g → w5.heap.size ≤ g) := Lib.hid (fun g hg => by
    rcases hat g hg with h | h
    · exact HF6.out g h
    · have := HB6.out.size; omega)
  clear hown hgrow hat hnn
  have HL1 : Hid ((zs ++ [128]).length = n + 1) := Lib.hid (by simp [HN.out])
  go_wp2_with fail
  go_loopw [5] (fun v wr => ∃ (j : Nat) (cur : List Int) (a1 : Option Addr) (c1 : Nat), j ≤ padN zs.length ∧ cur = zs ++ ([128] ++ List.replicate j 0) ∧ v = .slice a1 cur.length c1 ∧ wr.ownsRow 0 5 1 (.slice a1 cur.length c1) cur.length (cur.map (Value.int .u8)) ∧ Below w5.heap.size w5 wr ∧ (∀ g, (Value.slice a1 cur.length c1).ownBlock = some g → w5.heap.size ≤ g)) (fun v _ => n + 200 - sliceLen v)
  case atStart => exact ⟨0, zs ++ [128], ao7, cap7, Nat.zero_le _, by simp, by rw [HL1.out], by rw [HL1.out]; exact HO7.out, HB7.out, by rw [HL1.out]; exact HF7.out⟩
  case round =>
    obtain ⟨j, cur, a1, c1, hj, hc, rfl, ho, hb, hf⟩ := hrel
    have HJ := Lib.hid hj
    have HC := Lib.hid hc
    have HO := Lib.hid ho
    have HB := Lib.hid hb
    have HF := Lib.hid hf
    have HLC : Hid (cur.length = n + 1 + j) := Lib.hid (by rw [hc]; simp [HN.out]; omega)
    clear hj hc ho hb hf
    by_cases hlt : j < padN zs.length
    · have hne : ((cur.length : Int) % 64 != 56) = true := by
        have h1 := HLC.out
        have h2 := HN.out
        unfold padN at hlt
        rw [bne_iff_ne]; omega
      go_wp2_with (at_builtin; refine wpList_append_any rfl _ _ 62 rfl 5 i0 (.int .u8 0) 1 1 Tryz.underlying62 hi hz0 hz1 hz2 rfl (by decide) (.slice a1 cur.length c1) cur.length (cur.map (Value.int .u8)) rfl (HO.out.alloc _) (some ⟨wr.heap.size, 0, none⟩) 1 1 [.int .u8 0] rfl rfl ?c2 (fun ad had => by cases had; exact cell_one_new _ _ _) (by simp [Value.oneCell']) ?c5 ?c6 ?_)
      case c2 => intro e; cases e
      case c5 => have := HL.out; have := HLC.out; unfold padN at hlt; unfold maxLen; omega
      case c6 => have := HL.out; have := HLC.out; unfold padN at hlt; omega
      intro ao' cap' w8 hown hgrow hat hnn
      have HO8 : Hid (w8.ownsRow 0 5 1 (.slice ao' (cur.length + 1) cap') (cur.length + 1) ((cur ++ [0]).map (Value.int .u8))) := Lib.hid (by simpa using hown)
      have HB8 : Hid (Below w5.heap.size w5 w8) := Lib.hid ((HB.out.alloc (by have := HB.out.size; omega) _).grown hgrow (by have := HB.out.size; simp; omega) (fun k hk => HF.out k hk))
      have HF8 : Hid (∀ g, (Value.slice ao' (cur.length + 1) cap').ownBlock = some g → w5.heap.size ≤ g) := Lib.hid (fun g hg => by
        rcases hat g hg with h | h
        · exact HF.out g h
        · have := HB.out.size; omega)
      have HC8 : Hid (cur ++ [0] = zs ++ ([128] ++ List.replicate (j + 1) 0)) := Lib.hid (by rw [HC.out, List.replicate_succ']; simp)
      clear hown hgrow hat hnn hne
      go_wp2
      go_roundw
      case rel => first | exact ⟨j + 1, cur ++ [0], ao', cap', by omega, HC8.out, by simp, by simpa using HO8.out, HB8.out, by simpa using HF8.out⟩ | ((repeat apply Exists.intro); refine ⟨?_, rfl⟩; exact ⟨j + 1, cur ++ [0], ao', cap', by omega, HC8.out, by simp, by simpa using HO8.out, HB8.out, by simpa using HF8.out⟩)
      case measure => have := HLC.out; unfold padN at hlt; simp [sliceLen]; try omega
    · obtain rfl : j = padN zs.length := by have := HJ.out; omega
      have hne : ((cur.length : Int) % 64 != 56) = false := by
        have h1 := HLC.out
        have h2 := HN.out
        unfold padN at h1
        rw [bne_eq_false_iff_eq]; omega
      have ew : IntKind.u64.wrap ((n : Int) * 8) = 8 * (n : Int) % 18446744073709551616 := by rw [IntKind.wrap_u64]; omega
      have ew0 : IntKind.u64.wrap (n : Int) = (n : Int) := by have := HL.out; rw [IntKind.wrap_u64]; omega
      have HTF : Hid (cur ++ bytesBE (8 * (n : Int) % 18446744073709551616) 8 = zs ++ tailF zs) := Lib.hid (by
        rw [HC.out, ← HN.out]
        unfold tailF
        simp)
      have HVN : Hid (0 ≤ 8 * (n : Int) % 18446744073709551616 ∧ 8 * (n : Int) % 18446744073709551616 < 18446744073709551616) := Lib.hid ⟨by omega, by omega⟩
      generalize 8 * (n : Int) % 18446744073709551616 = N8 at *
      go_wp2_with fail
      go_loopw [5, 7] (fun v i wq => ∃ (j : Nat) (cur : List Int) (a1 : Option Addr) (c1 : Nat), j ≤ 8 ∧ i = .int .i64 ((j : Int) - 1) ∧ v = .slice a1 cur.length c1 ∧ cur ++ bytesBE N8 j = zs ++ tailF zs ∧ wq.ownsRow 0 5 1 (.slice a1 cur.length c1) cur.length (cur.map (Value.int .u8)) ∧ Below w5.heap.size w5 wq ∧ (∀ g, (Value.slice a1 cur.length c1).ownBlock = some g → w5.heap.size ≤ g)) (fun _ i _ => (intOf i + 1).toNat)
      case atStart => exact ⟨8, cur, a1, c1, Nat.le_refl _, rfl, rfl, HTF.out, HO.out, HB.out, HF.out⟩
      case round =>
        clear HO HB HF HC HJ HLC HTF ew ew0 hne hlt HO7 HB7 HF7 HO6 HB6 HF6
        obtain ⟨j, cur, a1, c1, hj, rfl, rfl, he, ho, hk, hf⟩ := hrel
        have HE := Lib.hid he
        have HOR := Lib.hid ho
        have HKR := Lib.hid hk
        have HFR := Lib.hid hf
        clear he ho hk hf
        have HTZ : Hid ((zs ++ tailF zs).length ≤ n + 80) := Lib.hid (by
          unfold tailF padN
          simp [bytesBE_len, HN.out]; omega)
        have HCL : Hid (cur.length + j ≤ n + 80) := Lib.hid (by
          have h1 := congrArg List.length HE.out
          rw [List.length_append, bytesBE_len] at h1
          rw [h1]; exact HTZ.out)
        cases j with
        | zero =>
          have HE0 : Hid (cur = zs ++ tailF zs) := Lib.hid (by have := HE.out; simpa [bytesBE] using this)
          have HPB : Hid (InB cur) := Lib.hid (by rw [HE0.out]; exact inB_app HBY.out (inB_app (inB_app (fun z hz => by simp at hz; omega) (fun z hz => by rw [List.mem_replicate] at hz; omega)) (bytesBE_inB _ _)))
          obtain ⟨N, HNN⟩ : ∃ N : Nat, Hid (cur.length = 64 * N ∧ 0 < N) := ⟨cur.length / 64, Lib.hid (by
            have h1 := HTL.out
            rw [← HE0.out] at h1
            have h2 : 0 < cur.length := by rw [HE0.out]; unfold tailF; simp; omega
            omega)⟩
          have HSF2 : Hid (shaF zs = outF (absF hInit cur).1) := Lib.hid (by rw [HSF.out, HE0.out])
          clear HE HE0 HTL HSF
          obtain ⟨g, rfl⟩ : ∃ g, a1 = some ⟨g, 0, none⟩ := by
            rcases HOR.out.2 with ⟨hv, hn⟩ | ⟨g, cap', cur', hv, _⟩
            · have := HNN.out; omega
            · simp only [Value.slice.injEq] at hv; exact ⟨g, hv.1⟩
          have HPN : Hid (cur.length = 64 * N) := Lib.hid HNN.out.1
          obtain ⟨_, hra6, hc6, hm6⟩ := owns_at HOR.out
          have HC6 := Lib.hid (And.intro hc6 hm6)
          have HG6 : Hid (w5.heap.size ≤ g ∧ g < wr.heap.size) := Lib.hid ⟨HFR.out g rfl, (HOR.out.lt g rfl).2⟩
          have HRW := Lib.hid (fun wx (hk : Keeps (fun i => i = B2 + 1) wr wx) => show IntsAt .u8 wx (some ⟨g, 0, none⟩) cur from hra6.same (fun a ha hl => by
            cases ha
            have := HG6.out
            have := HS5.out
            exact hk.block g hl (by omega)))
          have HKB : Hid (ArrAt wr B2 98 64 0 kAt) := Lib.hid (HK5.out.below HKR.out)
          have HHB : Hid (ArrF wr (B2 + 1) 99 8 0 (fun j => hInit.getD j 0) startsV) := Lib.hid (HH5.out.below HKR.out)
          have HKW := Lib.hid (fun wx (hk : Keeps (fun i => i = B2 + 1) wr wx) => HKB.out.same (w' := wx) (hk.block B2 HKB.out.lt (by omega)))
          have HBW := Lib.hid (fun wx (hk : Keeps (fun i => i = B2 + 1) wr wx) => show Below w.heap.size w wx from (((Keeps.of_below (S := fun _ => False) HB5.out).trans (Keeps.of_below (S := fun _ => False) HKR.out) (fun _ h => h.elim)).trans hk (fun i h => Or.inr (by have := HS2.out; omega))).below (Nat.le_refl _) (fun _ h => h.elim))
          clear hra6 hc6 hm6 HOR HKR HFR HTZ
          go_wp2_with fail
          go_loopw [8] (fun i wx => ∃ k : Nat, k ≤ N ∧ i = .int .i64 ((64 * k : Nat) : Int) ∧ ArrF wx (B2 + 1) 99 8 0 (fun j => (absN k hInit cur).1.getD j 0) startsV ∧ Keeps (fun i => i = B2 + 1) wr wx) (fun i _ => 64 * N - (intOf i).toNat)
          case atStart => exact ⟨0, Nat.zero_le _, rfl, HHB.out, Keeps.refl _ _⟩
          case round =>
            obtain ⟨k, hk, rfl, ha, hkp⟩ := hrel
            have HA := Lib.hid ha
            have HKP := Lib.hid hkp
            clear ha hkp
            by_cases hlt : k < N
            · have hrw := HRW.out wr HKP.out
              have HBL := Lib.hid (rblock_any (B2 + 1) 0 8 B2 64 99 98 (some ⟨g, 64 * k, none⟩) ((cur.drop (64 * k)).take 64) (c1 - 64 * k) (absN k hInit cur).1 wr.drew (absN_len k _ _ hInit_len) (by omega) startsV (HA.out.same rfl) (absN_in k _ _ hInit_in) ((HKW.out wr HKP.out).same rfl) (by have := HPN.out; simp; omega) ((by have := hrw.drop (64 * k); rw [Nat.zero_add] at this; exact this.same (w' := wr.drew) (fun _ _ _ => rfl) : IntsAt .u8 wr.drew (some ⟨g, 64 * k, none⟩) (cur.drop (64 * k))).take 64) (inB_take (inB_drop HPB.out _) _))
              have HSC := Lib.hid (absN_succ k hInit cur)
              have hcap := HC6.out.1
              have hln := HPN.out
              have HBD : Hid (cur.length ≤ 1099511628000) := Lib.hid (by have := HCL.out; have := HL.out; omega)
              have hbd := HBD.out
              generalize cur.length = LEN at *
              have e1 : ((64 * k : Nat) : Int).toNat = 64 * k := by omega
              have b0 : (0 : Int) ≤ ((64 * k : Nat) : Int) := by omega
              have b1 : ((64 * k : Nat) : Int) < (LEN : Int) := by omega
              have b2 : ((64 * k : Nat) : Int) ≤ ((64 * k : Nat) : Int) + 64 := by omega
              have b3 : ((64 * k : Nat) : Int) + 64 ≤ (c1 : Int) := by omega
              have b5 : ¬ c1 = 64 * k := by omega
              have e2 : (((64 * k : Nat) : Int) + 64).toNat = 64 * k + 64 := by omega
              have e3 : IntKind.i64.wrap (((64 * k : Nat) : Int) + 64) = ((64 * k : Nat) : Int) + 64 := by rw [IntKind.wrap_i64]; omega
              have e4 : 64 * k + 64 - 64 * k = 64 := by omega
              have b6 : 64 * k ≤ 64 * k + 64 := by omega
              have b7 : 64 * k + 64 ≤ c1 := by omega
              have HKK := Lib.hid (show 64 * (k + 1) = 64 * k + 64 by omega)
              have HKL := Lib.hid (show 64 * k + 64 ≤ 64 * N by omega)
              clear hln hbd hcap
              generalize 64 * k = K at *
              go_wp2_with fail
              refine wp_region_held_drew (S := fun _ => True) (by kernel_rfl) ?_ (fun hHeld => ?_)
              · trivial
              refine take_at (i := 0) (d := 47) (v := ?_) rfl rfl (by kernel_rfl) (by kernel_rfl) (by kernel_rfl) (fun _ _ _ h => h) (Or.inl ⟨by rfl, by intro w' hSw; (try dsimp only at hSw); go_simp; try with_reducible rfl⟩) (by assumption) ?_
              simp only [List.setIfInBounds_toArray, List.set_cons_zero, List.set_cons_succ]
              refine take_at (i := 1) (d := 48) (v := ?_) rfl rfl (by kernel_rfl) (by kernel_rfl) (by kernel_rfl) (fun _ _ _ h => h) (Or.inl ⟨by rfl, by intro w' hSw; (try dsimp only at hSw); go_simp; try with_reducible rfl⟩) (by assumption) ?_
              simp only [List.setIfInBounds_toArray, List.set_cons_zero, List.set_cons_succ]
              refine take_at (i := 2) (d := 49) (v := ?_) rfl rfl (by kernel_rfl) (by kernel_rfl) (by kernel_rfl) (fun _ _ _ h => h) (Or.inl ⟨by rfl, by intro w' hSw; (try dsimp only at hSw); go_simp; try with_reducible rfl⟩) (by assumption) ?_
              simp only [List.setIfInBounds_toArray, List.set_cons_zero, List.set_cons_succ]
              refine take_at (i := 3) (d := 50) (v := ?_) rfl rfl (by kernel_rfl) (by kernel_rfl) (by kernel_rfl) (fun _ _ _ h => h) (Or.inl ⟨by rfl, by intro w' hSw; (try dsimp only at hSw); go_simp; try with_reducible rfl⟩) (by assumption) ?_
              simp only [List.setIfInBounds_toArray, List.set_cons_zero, List.set_cons_succ]
              refine take_at (i := 4) (d := 51) (v := ?_) rfl rfl (by kernel_rfl) (by kernel_rfl) (by kernel_rfl) (fun _ _ _ h => h) (Or.inl ⟨by rfl, by intro w' hSw; (try dsimp only at hSw); go_simp; try with_reducible rfl⟩) (by assumption) ?_
              simp only [List.setIfInBounds_toArray, List.set_cons_zero, List.set_cons_succ]
              refine take_at (i := 5) (d := 52) (v := ?_) rfl rfl (by kernel_rfl) (by kernel_rfl) (by kernel_rfl) (fun _ _ _ h => h) (Or.inl ⟨by rfl, by intro w' hSw; (try dsimp only at hSw); go_simp; try with_reducible rfl⟩) (by assumption) ?_
              simp only [List.setIfInBounds_toArray, List.set_cons_zero, List.set_cons_succ]
              refine take_at (i := 6) (d := 53) (v := ?_) rfl rfl (by kernel_rfl) (by kernel_rfl) (by kernel_rfl) (fun _ _ _ h => h) (Or.inl ⟨by rfl, by intro w' hSw; (try dsimp only at hSw); go_simp; try with_reducible rfl⟩) (by assumption) ?_
              simp only [List.setIfInBounds_toArray, List.set_cons_zero, List.set_cons_succ]
              refine wpAnyH_ready (rs := [7]) (by kernel_rfl) (by simp) ?_
              refine AllReadyH.cons rfl (fun K hK => ?_) AllReadyH.nil
              go_simp
              go_at_call 124
              refine HBL.out.mono ?_
              rintro e w9 ⟨rfl, ha9, hk9⟩
              have HA9 : Hid (ArrF w9 (B2 + 1) 99 8 0 (fun j => (absN (k + 1) hInit cur).1.getD j 0) startsV) := Lib.hid (by rw [HSC.out]; exact ha9)
              have HK9 := Lib.hid (HKP.out.drew.trans hk9 (fun i h => Or.inl h))
              clear ha9 hk9
              dsimp only
              go_wp2_with fail
              refine hK.out _ _ ?_ (fun hHeld => ?_)
              · trivial
              clear hK K
              try simp only [Act.put, List.getElem_toArray, List.getElem_cons_succ, List.getElem_cons_zero]
              try simp only [List.setIfInBounds_toArray, List.set_cons_zero, List.set_cons_succ]
              refine wpAnyH_done (by kernel_rfl) ?_ _
              go_wp2_with fail
              go_roundw
              case rel => first | exact ⟨k + 1, by omega, by rw [HKK.out]; go_num, HA9.out, HK9.out⟩ | ((repeat apply Exists.intro); refine ⟨?_, rfl⟩; exact ⟨k + 1, by omega, by rw [HKK.out]; go_num, HA9.out, HK9.out⟩)
              case measure => have := HKL.out; simp [intOf]; omega
            · obtain rfl : k = N := by omega
              have hln := HPN.out
              have HFS : Hid ((absN k hInit cur).1 = (absF hInit cur).1) := Lib.hid (by
                unfold absF
                rw [hln, show 64 * k / 64 = k by omega])
              have b1 : ¬ ((64 * k : Nat) : Int) < ((64 * k : Nat) : Int) := by omega
              have HAE : Hid (ArrF wr (B2 + 1) 99 8 0 (fun j => (absF hInit cur).1.getD j 0) startsV) := Lib.hid (by rw [← HFS.out]; exact HA.out)
              have H8 : Hid ((absF hInit cur).1.length = 8) := Lib.hid (absN_len _ _ _ hInit_len)
              have H8I : Hid (∀ j, InU ((absF hInit cur).1.getD j 0)) := Lib.hid (absN_in _ _ _ hInit_in)
              have HBE := Lib.hid (HBW.out wr HKP.out)
              clear HFS HA HBW HKW HRW HKB HHB HPN HNN HC6
              generalize (absF hInit cur).1 = HS at *
              rw [hln]
              clear hln
              generalize hKE : 64 * k = K at *
              clear hKE
              rename World => wE
              go_wp2_with fail
              go_loopw [9, 10] (fun v i wq => ∃ (k : Nat) (a2 : Option Addr) (c2 : Nat), k ≤ 8 ∧ i = .int .i64 k ∧ v = .slice a2 (4 * k) c2 ∧ wq.ownsRow 0 5 1 (.slice a2 (4 * k) c2) (4 * k) ((outF (HS.take k)).map (Value.int .u8)) ∧ Below wE.heap.size wE wq ∧ (∀ g, (Value.slice a2 (4 * k) c2).ownBlock = some g → wE.heap.size ≤ g)) (fun _ i _ => 8 - (intOf i).toNat)
              case atStart => exact ⟨0, none, 0, Nat.zero_le _, rfl, rfl, World.ownsRow_nil _ _ _ _, Below.refl _ _, fun g hg => by cases hg⟩
              case round =>
                obtain ⟨k, a2, c2, hk, rfl, rfl, ho, hb, hf⟩ := hrel
                have HO9 := Lib.hid ho
                have HB9 := Lib.hid hb
                have HF9 := Lib.hid hf
                have HA9 := Lib.hid (HAE.out.below hb)
                clear ho hb hf
                by_cases hlt : k < 8
                · have j0 : (0 : Int) ≤ (k : Int) := by omega
                  have j1 : (k : Int) < 8 := by omega
                  have HZ := Lib.hid (H8I.out k)
                  have HZ8 : Hid (outF (HS.take k) ++ bytesBE (HS.getD k 0) 4 = outF (HS.take (k + 1))) := Lib.hid (by
                    have hl : k < HS.length := by rw [H8.out]; exact hlt
                    unfold outF
                    rw [List.take_succ_eq_append_getElem hl, List.flatMap_append]
                    congr 1
                    simp [List.getD, List.getElem?_eq_getElem hl])
                  have cz := (HA9.out.cell k hlt).1
                  simp only [Nat.zero_add] at cz
                  have HOL : Hid ((outF (HS.take k)).length = 4 * k) := Lib.hid (by rw [outF_len, List.length_take, H8.out]; omega)
                  generalize HS.getD k 0 = z at *
                  go_wp2_with fail
                  refine wp_region_held_drew (S := fun w' => w'.cell? ⟨B2 + 1, k, none⟩ = some (.int .u32 z)) (by kernel_rfl) ?_ (fun hHeld => ?_)
                  · exact cz
                  refine take_at (i := 0) (d := 59) (v := ?_) rfl rfl (by kernel_rfl) (by kernel_rfl) (by kernel_rfl) (fun _ _ _ h => h) (Or.inl ⟨by rfl, by intro w' hSw; (try dsimp only at hSw); go_simp; try with_reducible rfl⟩) (by assumption) ?_
                  simp only [List.setIfInBounds_toArray, List.set_cons_zero, List.set_cons_succ]
                  refine take_at (i := 1) (d := 60) (v := ?_) rfl rfl (by kernel_rfl) (by kernel_rfl) (by kernel_rfl) (fun _ _ _ h => h) (Or.inl ⟨by rfl, by intro w' hSw; (try dsimp only at hSw); go_simp; try with_reducible rfl⟩) (by assumption) ?_
                  simp only [List.setIfInBounds_toArray, List.set_cons_zero, List.set_cons_succ]
                  refine take_at (i := 2) (d := 61) (v := ?_) rfl rfl (by kernel_rfl) (by kernel_rfl) (by kernel_rfl) (fun _ _ _ h => h) (Or.inl ⟨by rfl, by intro w' hSw; (try dsimp only at hSw); go_simp; try with_reducible rfl⟩) (by assumption) ?_
                  simp only [List.setIfInBounds_toArray, List.set_cons_zero, List.set_cons_succ]
                  refine take_at (i := 3) (d := 62) (v := ?_) rfl rfl (by kernel_rfl) (by kernel_rfl) (by kernel_rfl) (fun _ _ _ h => h) (Or.inl ⟨by rfl, by intro w' hSw; (try dsimp only at hSw); go_simp; try with_reducible rfl⟩) (by assumption) ?_
                  simp only [List.setIfInBounds_toArray, List.set_cons_zero, List.set_cons_succ]
                  refine take_at (i := 4) (d := 63) (v := ?_) rfl rfl (by kernel_rfl) (by kernel_rfl) (by kernel_rfl) (fun _ _ _ h => h) (Or.inl ⟨by rfl, by intro w' hSw; (try dsimp only at hSw); go_simp; try with_reducible rfl⟩) (by assumption) ?_
                  simp only [List.setIfInBounds_toArray, List.set_cons_zero, List.set_cons_succ]
                  refine take_at (i := 5) (d := 64) (v := ?_) rfl rfl (by kernel_rfl) (by kernel_rfl) (by kernel_rfl) (fun _ _ _ h => h) (Or.inl ⟨by rfl, by intro w' hSw; (try dsimp only at hSw); go_simp; try with_reducible rfl⟩) (by assumption) ?_
                  simp only [List.setIfInBounds_toArray, List.set_cons_zero, List.set_cons_succ]
                  refine take_at (i := 6) (d := 65) (v := ?_) rfl rfl (by kernel_rfl) (by kernel_rfl) (by kernel_rfl) (fun _ _ _ h => h) (Or.inl ⟨by rfl, by intro w' hSw; (try dsimp only at hSw); go_simp; try with_reducible rfl⟩) (by assumption) ?_
                  simp only [List.setIfInBounds_toArray, List.set_cons_zero, List.set_cons_succ]
                  refine take_at (i := 7) (d := 66) (v := ?_) rfl rfl (by kernel_rfl) (by kernel_rfl) (by kernel_rfl) (fun _ _ _ h => h) (Or.inl ⟨by rfl, by intro w' hSw; (try dsimp only at hSw); go_simp; try with_reducible rfl⟩) (by assumption) ?_
                  simp only [List.setIfInBounds_toArray, List.set_cons_zero, List.set_cons_succ]
                  refine take_at (i := 8) (d := 67) (v := ?_) rfl rfl (by kernel_rfl) (by kernel_rfl) (by kernel_rfl) (fun _ _ _ h => h) (Or.inl ⟨by rfl, by intro w' hSw; (try dsimp only at hSw); go_simp; try with_reducible rfl⟩) (by assumption) ?_
                  simp only [List.setIfInBounds_toArray, List.set_cons_zero, List.set_cons_succ]
                  refine take_at (i := 9) (d := 68) (v := ?_) rfl rfl (by kernel_rfl) (by kernel_rfl) (by kernel_rfl) (fun _ _ _ h => h) (Or.inl ⟨by rfl, by intro w' hSw; (try dsimp only at hSw); go_simp; try with_reducible rfl⟩) (by assumption) ?_
                  simp only [List.setIfInBounds_toArray, List.set_cons_zero, List.set_cons_succ]
                  refine take_at (i := 10) (d := 69) (v := ?_) rfl rfl (by kernel_rfl) (by kernel_rfl) (by kernel_rfl) (fun _ _ _ h => h) (Or.inl ⟨by rfl, by intro w' hSw; (try dsimp only at hSw); go_simp; try with_reducible rfl⟩) (by assumption) ?_
                  simp only [List.setIfInBounds_toArray, List.set_cons_zero, List.set_cons_succ]
                  refine take_at (i := 11) (d := 70) (v := ?_) rfl rfl (by kernel_rfl) (by kernel_rfl) (by kernel_rfl) (fun _ _ _ h => h) (Or.inl ⟨by rfl, by intro w' hSw; (try dsimp only at hSw); go_simp; try with_reducible rfl⟩) (by assumption) ?_
                  simp only [List.setIfInBounds_toArray, List.set_cons_zero, List.set_cons_succ]
                  refine take_at (i := 12) (d := 71) (v := ?_) rfl rfl (by kernel_rfl) (by kernel_rfl) (by kernel_rfl) (fun _ _ _ h => h) (Or.inl ⟨by rfl, by intro w' hSw; (try dsimp only at hSw); go_simp; try with_reducible rfl⟩) (by assumption) ?_
                  simp only [List.setIfInBounds_toArray, List.set_cons_zero, List.set_cons_succ]
                  refine take_at (i := 13) (d := 72) (v := ?_) rfl rfl (by kernel_rfl) (by kernel_rfl) (by kernel_rfl) (fun _ _ _ h => h) (Or.inl ⟨by rfl, by intro w' hSw; (try dsimp only at hSw); go_simp; try with_reducible rfl⟩) (by assumption) ?_
                  simp only [List.setIfInBounds_toArray, List.set_cons_zero, List.set_cons_succ]
                  refine take_at (i := 14) (d := 73) (v := ?_) rfl rfl (by kernel_rfl) (by kernel_rfl) (by kernel_rfl) (fun _ _ _ h => h) (Or.inl ⟨by rfl, by intro w' hSw; (try dsimp only at hSw); go_simp; try with_reducible rfl⟩) (by assumption) ?_
                  simp only [List.setIfInBounds_toArray, List.set_cons_zero, List.set_cons_succ]
                  refine take_at (i := 15) (d := 74) (v := ?_) rfl rfl (by kernel_rfl) (by kernel_rfl) (by kernel_rfl) (fun _ _ _ h => h) (Or.inl ⟨by rfl, by intro w' hSw; (try dsimp only at hSw); go_simp; try with_reducible rfl⟩) (by assumption) ?_
                  simp only [List.setIfInBounds_toArray, List.set_cons_zero, List.set_cons_succ]
                  refine take_at (i := 16) (d := 75) (v := ?_) rfl rfl (by kernel_rfl) (by kernel_rfl) (by kernel_rfl) (fun _ _ _ h => h) (Or.inl ⟨by rfl, by intro w' hSw; (try dsimp only at hSw); go_simp; try with_reducible rfl⟩) (by assumption) ?_
                  simp only [List.setIfInBounds_toArray, List.set_cons_zero, List.set_cons_succ]
                  refine take_at (i := 17) (d := 76) (v := ?_) rfl rfl (by kernel_rfl) (by kernel_rfl) (by kernel_rfl) (fun _ _ _ h => h) (Or.inl ⟨by rfl, by intro w' hSw; (try dsimp only at hSw); go_simp; try with_reducible rfl⟩) (by assumption) ?_
                  simp only [List.setIfInBounds_toArray, List.set_cons_zero, List.set_cons_succ]
                  refine take_at (i := 18) (d := 77) (v := ?_) rfl rfl (by kernel_rfl) (by kernel_rfl) (by kernel_rfl) (fun _ _ _ h => h) (Or.inl ⟨by rfl, by intro w' hSw; (try dsimp only at hSw); go_simp; try with_reducible rfl⟩) (by assumption) ?_
                  simp only [List.setIfInBounds_toArray, List.set_cons_zero, List.set_cons_succ]
                  refine take_at (i := 19) (d := 78) (v := ?_) rfl rfl (by kernel_rfl) (by kernel_rfl) (by kernel_rfl) (fun _ _ _ h => h) (Or.inl ⟨by rfl, by intro w' hSw; (try dsimp only at hSw); go_simp; try with_reducible rfl⟩) (by assumption) ?_
                  simp only [List.setIfInBounds_toArray, List.set_cons_zero, List.set_cons_succ]
                  refine wpAnyH_ready (rs := [20]) (by kernel_rfl) (by simp) ?_
                  refine AllReadyH.cons rfl (fun K hK => ?_) AllReadyH.nil
                  go_simp
                  go_wp2_with fail
                  refine hK.out _ _ ?_ (fun hHeld => ?_)
                  · exact (World.cell?_alloc_past _ _ _ (by have := HA9.out.lt; simpa using this)).trans cz
                  clear hK K
                  try simp only [Act.put, List.getElem_toArray, List.getElem_cons_succ, List.getElem_cons_zero]
                  try simp only [List.setIfInBounds_toArray, List.set_cons_zero, List.set_cons_succ]
                  have HZB : Hid (bytesBE z 4 = [IntKind.u8.wrap (z / 16777216), IntKind.u8.wrap (z / 65536), IntKind.u8.wrap (z / 256), IntKind.u8.wrap z]) := Lib.hid (by
                    show [z / 256 ^ 3 % 256, z / 256 ^ 2 % 256, z / 256 ^ 1 % 256, z / 256 ^ 0 % 256] = _
                    rw [IntKind.wrap_u8, IntKind.wrap_u8, IntKind.wrap_u8, IntKind.wrap_u8, show (256 : Int) ^ 3 = 16777216 by decide, show (256 : Int) ^ 2 = 65536 by decide, show (256 : Int) ^ 1 = 256 by decide, show (256 : Int) ^ 0 = 1 by decide, Int.ediv_one])
                  refine wpAnyH_ready (rs := [21]) (by kernel_rfl) (by simp) ?_
                  refine AllReadyH.cons rfl (fun K hK => ?_) AllReadyH.nil
                  refine step_append_any (by rfl) _ _ 62 (by rfl) 5 i0 (.int .u8 0) 1 1 Tryz.underlying62 hi hz0 hz1 hz2 rfl (by decide) (.slice a2 (4 * k) c2) (4 * k) ((outF (HS.take k)).map (Value.int .u8)) (by rfl) (ownsRow_same (HO9.out.alloc _) (fun _ _ => rfl)) (some ⟨wr.heap.size, 0, none⟩) 4 4 [.int .u8 (IntKind.u8.wrap (z / 16777216)), .int .u8 (IntKind.u8.wrap (z / 65536)), .int .u8 (IntKind.u8.wrap (z / 256)), .int .u8 (IntKind.u8.wrap z)] (by rfl) (by rfl) (fun e => by cases e) (fun ad had => by cases had; exact World.news_of_block (heap_alloc_new _ _)) (by simp [Value.oneCell']) (by unfold maxLen; omega) (by omega) ?_
                  intro ao2 cap2 w8 hown hgrow hat hnn
                  have HO10 : Hid (w8.ownsRow 0 5 1 (.slice ao2 (4 * (k + 1)) cap2) (4 * (k + 1)) ((outF (HS.take (k + 1))).map (Value.int .u8))) := Lib.hid (by rw [← HZ8.out, HZB.out, show 4 * (k + 1) = 4 * k + 4 by omega]; simpa using hown)
                  have HB10 : Hid (Below wE.heap.size wE w8) := Lib.hid ((HB9.out.alloc (by have := HB9.out.size; omega) _).drew.grown hgrow (by have := HB9.out.size; simp; omega) (fun k hk => HF9.out k hk))
                  have HF10 : Hid (∀ g, (Value.slice ao2 (4 * (k + 1)) cap2).ownBlock = some g → wE.heap.size ≤ g) := Lib.hid (fun g hg => by
                    rcases hat g hg with h | h
                    · exact HF9.out g h
                    · have := HB9.out.size; simp at h; omega)
                  have cz8 : w8.cell? ⟨B2 + 1, k, none⟩ = some (.int .u32 z) := hgrow.cell hHeld (by intro e; have h1 := HF9.out _ e.symm; have h2 := HAE.out.lt; dsimp only at h1; omega)
                  clear hown hgrow hat hnn
                  go_wp2_with fail
                  refine hK.out _ _ ?_ (fun hHeld => ?_)
                  · exact cz8
                  clear hK K
                  try simp only [Act.put, List.getElem_toArray, List.getElem_cons_succ, List.getElem_cons_zero]
                  try simp only [List.setIfInBounds_toArray, List.set_cons_zero, List.set_cons_succ]
                  refine take_at (i := 22) (d := 9) (v := ?_) rfl rfl (by kernel_rfl) (by kernel_rfl) (by kernel_rfl) (fun _ _ _ h => h) (Or.inl ⟨by rfl, by intro w' hSw; (try dsimp only at hSw); go_simp; try with_reducible rfl⟩) (by assumption) ?_
                  simp only [List.setIfInBounds_toArray, List.set_cons_zero, List.set_cons_succ]
                  refine wpAnyH_done (by kernel_rfl) ?_ _
                  go_wp2_with fail
                  go_roundw
                  case rel => first | exact ⟨k + 1, ao2, cap2, by omega, by go_num, rfl, HO10.out, HB10.out, HF10.out⟩ | ((repeat apply Exists.intro); refine ⟨?_, rfl⟩; exact ⟨k + 1, ao2, cap2, by omega, by go_num, rfl, HO10.out, HB10.out, HF10.out⟩)
                  case measure => simp [intOf]; omega
                · obtain rfl : k = 8 := by omega
                  have HOE : Hid (wr.ownsRow 0 5 1 (.slice a2 32 c2) 32 ((shaF zs).map (Value.int .u8))) := Lib.hid (by
                    have h1 := HO9.out
                    rw [List.take_of_length_le (by rw [H8.out]; exact Nat.le_refl _), ← HSF2.out] at h1
                    exact h1)
                  go_wp2_with fail
                  go_ret
                  exact ⟨a2, c2, ret_val (a := .slice a2 32 c2) (by rw [shaF_len]), by rw [shaF_len]; exact ⟨by rw [shaF_len]; exact HOE.out, HBE.out.trans (HB9.out.mono HBE.out.size), fun g hg => Nat.le_trans HBE.out.size (HF9.out g hg)⟩⟩
        | succ j =>
          have j8 : (j : Int) < 8 := by omega
          have hw : wrap64 (8 * (j : Int)) = 8 * (j : Int) := by unfold wrap64; omega
          have hw2 : IntKind.u64.wrap (8 * (j : Int)) = 8 * (j : Int) := by rw [IntKind.wrap_u64]; omega
          have hs0 : (0 : Int) ≤ 8 * (j : Int) := by omega
          have hs1 : (8 : Int) * (j : Int) ≤ 64 := by omega
          have HP : Hid ((2 : Int) ^ ((8 * (j : Int)).toNat) = 256 ^ j) := Lib.hid (by
            rw [show (8 * (j : Int)).toNat = 8 * j by omega, show (256 : Int) = 2 ^ 8 from by decide, ← Int.pow_mul])
          have HE1 : Hid ((cur ++ [N8 / 256 ^ j % 256]) ++ bytesBE N8 j = zs ++ tailF zs) := Lib.hid (by
            have h1 := HE.out
            rw [List.append_assoc]; exact h1)
          go_wp2_with (at_builtin; refine wpList_append_any rfl _ _ 62 rfl 5 i0 (.int .u8 0) 1 1 Tryz.underlying62 hi hz0 hz1 hz2 rfl (by decide) (.slice a1 cur.length c1) cur.length (cur.map (Value.int .u8)) rfl (HOR.out.alloc _) (some ⟨wr.heap.size, 0, none⟩) 1 1 [.int .u8 (N8 / 2 ^ ((8 * (j : Int)).toNat) % 256)] rfl rfl ?c2 (fun ad had => by cases had; exact cell_one_new _ _ _) (by simp [Value.oneCell']) ?c5 ?c6 ?_)
          case c2 => intro e; cases e
          case c5 => have := HCL.out; have := HL.out; unfold maxLen; omega
          case c6 => have := HCL.out; have := HL.out; omega
          intro ao' cap' w8 hown hgrow hat hnn
          rw [HP.out] at hown
          have HO2 : Hid (w8.ownsRow 0 5 1 (.slice ao' (cur.length + 1) cap') (cur.length + 1) ((cur ++ [N8 / 256 ^ j % 256]).map (Value.int .u8))) := Lib.hid (by simpa using hown)
          have HK2 : Hid (Below w5.heap.size w5 w8) := Lib.hid ((HKR.out.alloc (by have := HKR.out.size; omega) _).grown hgrow (by have := HKR.out.size; simp; omega) (fun k hk => HFR.out k hk))
          have HF2 : Hid (∀ g, (Value.slice ao' (cur.length + 1) cap').ownBlock = some g → w5.heap.size ≤ g) := Lib.hid (fun g hg => by
            rcases hat g hg with h | h
            · exact HFR.out g h
            · have := HKR.out.size; omega)
          clear hown hgrow hat hnn
          go_wp2
          go_roundw
          case rel => first | exact ⟨j, cur ++ [N8 / 256 ^ j % 256], ao', cap', by omega, by go_num, by simp, HE1.out, by simpa using HO2.out, HK2.out, by simpa using HF2.out⟩ | ((repeat apply Exists.intro); refine ⟨?_, rfl⟩; exact ⟨j, cur ++ [N8 / 256 ^ j % 256], ao', cap', by omega, by go_num, by simp, HE1.out, by simpa using HO2.out, HK2.out, by simpa using HF2.out⟩)
          case measure => simp [intOf]; try omega

end Go.Proofs.YtkaciaehlibidaaGreat
