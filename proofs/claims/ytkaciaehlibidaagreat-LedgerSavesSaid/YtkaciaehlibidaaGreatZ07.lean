/- Parts of the proof: ShaR3 Sha11 Sha12 Fewl Args ShaQ Ty Buf Str Es1 Es2. -/
import Derived.Test.YtkaciaehlibidaaGreatZ01
import Derived.Test.YtkaciaehlibidaaGreatZ02
import Derived.Test.YtkaciaehlibidaaGreatZ06
import Derived.Lib.SlBytesConst
import Derived.Deep.Slices
import Derived.Deep.Fields
import Derived.Lib.AppendStr
import Derived.Laws.RangeString
import Derived.Lib.ConvBytes
namespace Go.Proofs.YtkaciaehlibidaaGreat
open Go.RowKit
set_option linter.unusedVariables false
set_option linter.unusedSimpArgs false
def tailF (all : List Int) : List Int := [128] ++ List.replicate (padN all.length) 0 ++ bytesBE (8 * (all.length : Int) % 18446744073709551616) 8
theorem shaF_ref (all : List Int) : shaF all = outF (absF hInit (all ++ tailF all)).1 := by
 rw [absF_app]
 rfl
theorem tail_len (all : List Int) : (all ++ tailF all).length % 64 = 0 := by
 unfold tailF padN
 simp only [List.length_append, bytesBE_len, List.length_replicate, List.length_cons, List.length_nil]
 omega
set_option maxRecDepth 100000 in
set_option maxHeartbeats 4000000 in
theorem rhash_any (ao : Option Addr) (zs : List Int) (n cap : Nat) (w : World) (hn : zs.length = n) (h : IntsAt .u8 w ao zs) (hB : InB zs) (hlen : n ≤ 1099511627776) :
 Calls Tryz.prog 114 #[.slice ao n cap] w fun e w' => RowPost w (shaF zs) e w' := by
 have HN := Lib.hid hn
 have HZ := Lib.hid h
 have HBY := Lib.hid hB
 have HL := Lib.hid hlen
 have HSF := Lib.hid (shaF_ref zs)
 have HTL := Lib.hid (tail_len zs)
 obtain ⟨i0, hi, hz0, hz1, hz2⟩ := info_parts Try_infoU8
 clear hn h hB hlen
 go_enter Tryz.func114, Tryz.ntmps114
 go_wp2_with fail
 refine (words_any w).mono ?_
 rintro e w1 ⟨rfl, hb1⟩
 have HB1 := Lib.hid hb1
 go_wp2_with fail
 refine (starts_any w1).mono ?_
 rintro e w2 ⟨rfl, hb2⟩
 have HB2 : Hid (Below w.heap.size w w2) := Lib.hid (HB1.out.trans (hb2.mono HB1.out.size))
 clear hb1 hb2
 go_wp2_with (first
  | (refine wpList_store_row rfl 98 _ _ rfl w2.heap.size wordsV rfl rfl 98 za (heap_alloc2_old _ _ _) (by rw [wordsV_size]; kernel_rfl) (by rw [wordsV_size, za_size]) wordsV_one ?_)
  | (refine wpList_store_row rfl 99 _ _ rfl (w2.heap.size + 1) startsV rfl rfl 99 _ ((setRow_other _ _ _ _ (by omega)).trans (heap_alloc2_new _ _ _)) (by rw [startsV_size]; kernel_rfl) (by rw [startsV_size]; rfl) startsV_one ?_))
 obtain ⟨w5, hw5⟩ : ∃ w5, w5 = (((w2.alloc (.cells za 98)).alloc (.cells #[.int .u32 0, .int .u32 0, .int .u32 0, .int .u32 0, .int .u32 0, .int .u32 0, .int .u32 0, .int .u32 0] 99)).setRow w2.heap.size wordsV).setRow (w2.heap.size + 1) startsV := ⟨_, rfl⟩
 have hk5 : w5.heap[w2.heap.size]? = some (.cells wordsV 98 (0, 0)) := by
  rw [hw5, setRow_other _ _ _ _ (by omega)]
  exact setRow_heap _ _ _ _ _ _ (heap_alloc2_old _ _ _)
 have hh5 : w5.heap[w2.heap.size + 1]? = some (.cells startsV 99 (0, 0)) := by
  rw [hw5]
  exact setRow_heap _ _ _ _ _ _ ((setRow_other _ _ _ _ (by omega)).trans (heap_alloc2_new _ _ _))
 have hb5 : Below w2.heap.size w2 w5 := by
  have h1 : Below w2.heap.size w2 ((w2.alloc (.cells za 98)).alloc (.cells #[.int .u32 0, .int .u32 0, .int .u32 0, .int .u32 0, .int .u32 0, .int .u32 0, .int .u32 0, .int .u32 0] 99)) := ((Below.refl _ _).alloc (Nat.le_refl _) _).alloc (by simp) _
  rw [hw5]
  exact ⟨h1.os, h1.tape, h1.output, by have := h1.size; simp only [World.setRow, Array.size_modify]; exact this, fun k hk => (setRow_other _ _ _ _ (by omega)).trans ((setRow_other _ _ _ _ (by omega)).trans (h1.block k hk))⟩
 have HK5 : Hid (ArrAt w5 w2.heap.size 98 64 0 kAt) := Lib.hid ⟨_, hk5, by rw [wordsV_size]; omega, fun j hj => by rw [Nat.zero_add]; exact wordsV_at j hj⟩
 have HH5 : Hid (ArrF w5 (w2.heap.size + 1) 99 8 0 (fun j => hInit.getD j 0) startsV) := Lib.hid (ArrF.of hh5 (by rw [startsV_size]; omega) (fun j hj => by
  rw [Nat.zero_add, startsV_at j hj]
  match j, hj with
  | 0, _ => rfl
  | 1, _ => rfl
  | 2, _ => rfl
  | 3, _ => rfl
  | 4, _ => rfl
  | 5, _ => rfl
  | 6, _ => rfl
  | 7, _ => rfl))
 have HB5 : Hid (Below w.heap.size w w5) := Lib.hid (HB2.out.trans (hb5.mono HB2.out.size))
 have HS2 := Lib.hid HB2.out.size
 have HS5 : Hid (w2.heap.size + 1 < w5.heap.size) := Lib.hid (blk_lt hh5)
 unfold za at hw5
 rw [← hw5]
 clear hw5 hk5 hh5 hb5
 generalize w2.heap.size = B2 at *
 clear HB1 HB2
 have HCP := Lib.hid (copyBytes ao zs n cap w5 HN.out (ints_below HZ.out HB5.out) (by have := HL.out; omega))
 refine HCP.out.mono ?_
 rintro e w6 ⟨ao6, cap6, rfl, hown6, hbel6, hfr6⟩
 rw [HN.out] at hown6 hfr6 ⊢
 have HO6 := Lib.hid hown6
 have HB6 := Lib.hid hbel6
 have HF6 := Lib.hid hfr6
 clear hown6 hbel6 hfr6
 go_wp2_with (at_builtin; refine wpList_append_any rfl _ _ 62 rfl 5 i0 (.int .u8 0) 1 1 Tryz.underlying62 hi hz0 hz1 hz2 rfl (by decide) (.slice ao6 n cap6) n (zs.map (Value.int .u8)) rfl (HO6.out.alloc _) (some ⟨w6.heap.size, 0, none⟩) 1 1 [.int .u8 128] rfl rfl ?c2 (fun ad had => by cases had; exact cell_one_new _ _ _) (by simp [Value.oneCell']) ?c5 ?c6 ?_)
 case c2 => intro e; cases e
 case c5 => have := HL.out; unfold maxLen; omega
 case c6 => have := HL.out; omega
 intro ao7 cap7 w7 hown hgrow hat hnn
 have HO7 : Hid (w7.ownsRow 0 5 1 (.slice ao7 (n + 1) cap7) (n + 1) ((zs ++ [128]).map (Value.int .u8))) := Lib.hid (by simpa using hown)
 have HB7 : Hid (Below w5.heap.size w5 w7) := Lib.hid ((HB6.out.alloc (by have := HB6.out.size; omega) _).grown hgrow (by have := HB6.out.size; simp; omega) (fun k hk => HF6.out k hk))
 have HF7 : Hid (∀ g, (Value.slice ao7 (n + 1) cap7).ownBlock = some g → w5.heap.size ≤ g) := Lib.hid (fun g hg => by
  rcases hat g hg with h | h
  · exact HF6.out g h
  · have := HB6.out.size; omega)
 clear hown hgrow hat hnn
 have HL1 : Hid ((zs ++ [128]).length = n + 1) := Lib.hid (by simp [HN.out])
 go_wp2_with fail
 go_loopw [5] (fun v wr => ∃ (j : Nat) (cur : List Int) (a1 : Option Addr) (c1 : Nat), j ≤ padN zs.length ∧ cur = zs ++ ([128] ++ List.replicate j 0) ∧ v = .slice a1 cur.length c1 ∧ wr.ownsRow 0 5 1 (.slice a1 cur.length c1) cur.length (cur.map (Value.int .u8)) ∧ Below w5.heap.size w5 wr ∧ (∀ g, (Value.slice a1 cur.length c1).ownBlock = some g → w5.heap.size ≤ g)) (fun v _ => n + 200 - sliceLen v)
 case atStart => exact ⟨0, zs ++ [128], ao7, cap7, Nat.zero_le _, by simp, by rw [HL1.out], by rw [HL1.out]; exact HO7.out, HB7.out, by rw [HL1.out]; exact HF7.out⟩
 case round =>
  obtain ⟨j, cur, a1, c1, hj, hc, rfl, ho, hb, hf⟩ := hrel
  have HJ := Lib.hid hj
  have HC := Lib.hid hc
  have HO := Lib.hid ho
  have HB := Lib.hid hb
  have HF := Lib.hid hf
  have HLC : Hid (cur.length = n + 1 + j) := Lib.hid (by rw [hc]; simp [HN.out]; omega)
  clear hj hc ho hb hf
  by_cases hlt : j < padN zs.length
  · have hne : ((cur.length : Int) % 64 != 56) = true := by
     have h1 := HLC.out
     have h2 := HN.out
     unfold padN at hlt
     rw [bne_iff_ne]; omega
    go_wp2_with (at_builtin; refine wpList_append_any rfl _ _ 62 rfl 5 i0 (.int .u8 0) 1 1 Tryz.underlying62 hi hz0 hz1 hz2 rfl (by decide) (.slice a1 cur.length c1) cur.length (cur.map (Value.int .u8)) rfl (HO.out.alloc _) (some ⟨wr.heap.size, 0, none⟩) 1 1 [.int .u8 0] rfl rfl ?c2 (fun ad had => by cases had; exact cell_one_new _ _ _) (by simp [Value.oneCell']) ?c5 ?c6 ?_)
    case c2 => intro e; cases e
    case c5 => have := HL.out; have := HLC.out; unfold padN at hlt; unfold maxLen; omega
    case c6 => have := HL.out; have := HLC.out; unfold padN at hlt; omega
    intro ao' cap' w8 hown hgrow hat hnn
    have HO8 : Hid (w8.ownsRow 0 5 1 (.slice ao' (cur.length + 1) cap') (cur.length + 1) ((cur ++ [0]).map (Value.int .u8))) := Lib.hid (by simpa using hown)
    have HB8 : Hid (Below w5.heap.size w5 w8) := Lib.hid ((HB.out.alloc (by have := HB.out.size; omega) _).grown hgrow (by have := HB.out.size; simp; omega) (fun k hk => HF.out k hk))
    have HF8 : Hid (∀ g, (Value.slice ao' (cur.length + 1) cap').ownBlock = some g → w5.heap.size ≤ g) := Lib.hid (fun g hg => by
     rcases hat g hg with h | h
     · exact HF.out g h
     · have := HB.out.size; omega)
    have HC8 : Hid (cur ++ [0] = zs ++ ([128] ++ List.replicate (j + 1) 0)) := Lib.hid (by rw [HC.out, List.replicate_succ']; simp)
    clear hown hgrow hat hnn hne
    go_wp2
    go_roundw
    case rel => first | exact ⟨j + 1, cur ++ [0], ao', cap', by omega, HC8.out, by simp, by simpa using HO8.out, HB8.out, by simpa using HF8.out⟩ | ((repeat apply Exists.intro); refine ⟨?_, rfl⟩; exact ⟨j + 1, cur ++ [0], ao', cap', by omega, HC8.out, by simp, by simpa using HO8.out, HB8.out, by simpa using HF8.out⟩)
    case measure => have := HLC.out; unfold padN at hlt; simp [sliceLen]; try omega
  · obtain rfl : j = padN zs.length := by have := HJ.out; omega
    have hne : ((cur.length : Int) % 64 != 56) = false := by
     have h1 := HLC.out
     have h2 := HN.out
     unfold padN at h1
     rw [bne_eq_false_iff_eq]; omega
    have ew : IntKind.u64.wrap ((n : Int) * 8) = 8 * (n : Int) % 18446744073709551616 := by rw [IntKind.wrap_u64]; omega
    have ew0 : IntKind.u64.wrap (n : Int) = (n : Int) := by have := HL.out; rw [IntKind.wrap_u64]; omega
    have HTF : Hid (cur ++ bytesBE (8 * (n : Int) % 18446744073709551616) 8 = zs ++ tailF zs) := Lib.hid (by
     rw [HC.out, ← HN.out]
     unfold tailF
     simp)
    have HVN : Hid (0 ≤ 8 * (n : Int) % 18446744073709551616 ∧ 8 * (n : Int) % 18446744073709551616 < 18446744073709551616) := Lib.hid ⟨by omega, by omega⟩
    generalize 8 * (n : Int) % 18446744073709551616 = N8 at *
    go_wp2_with fail
    go_loopw [5, 7] (fun v i wq => ∃ (j : Nat) (cur : List Int) (a1 : Option Addr) (c1 : Nat), j ≤ 8 ∧ i = .int .i64 ((j : Int) - 1) ∧ v = .slice a1 cur.length c1 ∧ cur ++ bytesBE N8 j = zs ++ tailF zs ∧ wq.ownsRow 0 5 1 (.slice a1 cur.length c1) cur.length (cur.map (Value.int .u8)) ∧ Below w5.heap.size w5 wq ∧ (∀ g, (Value.slice a1 cur.length c1).ownBlock = some g → w5.heap.size ≤ g)) (fun _ i _ => (intOf i + 1).toNat)
    case atStart => exact ⟨8, cur, a1, c1, Nat.le_refl _, rfl, rfl, HTF.out, HO.out, HB.out, HF.out⟩
    case round =>
     clear HO HB HF HC HJ HLC HTF ew ew0 hne hlt HO7 HB7 HF7 HO6 HB6 HF6
     obtain ⟨j, cur, a1, c1, hj, rfl, rfl, he, ho, hk, hf⟩ := hrel
     have HE := Lib.hid he
     have HOR := Lib.hid ho
     have HKR := Lib.hid hk
     have HFR := Lib.hid hf
     clear he ho hk hf
     have HTZ : Hid ((zs ++ tailF zs).length ≤ n + 80) := Lib.hid (by
      unfold tailF padN
      simp [bytesBE_len, HN.out]; omega)
     have HCL : Hid (cur.length + j ≤ n + 80) := Lib.hid (by
      have h1 := congrArg List.length HE.out
      rw [List.length_append, bytesBE_len] at h1
      rw [h1]; exact HTZ.out)
     cases j with
     | zero =>
       have HE0 : Hid (cur = zs ++ tailF zs) := Lib.hid (by have := HE.out; simpa [bytesBE] using this)
       have HPB : Hid (InB cur) := Lib.hid (by rw [HE0.out]; exact inB_app HBY.out (inB_app (inB_app (fun z hz => by simp at hz; omega) (fun z hz => by rw [List.mem_replicate] at hz; omega)) (bytesBE_inB _ _)))
       obtain ⟨N, HNN⟩ : ∃ N : Nat, Hid (cur.length = 64 * N ∧ 0 < N) := ⟨cur.length / 64, Lib.hid (by
        have h1 := HTL.out
        rw [← HE0.out] at h1
        have h2 : 0 < cur.length := by rw [HE0.out]; unfold tailF; simp; omega
        omega)⟩
       have HSF2 : Hid (shaF zs = outF (absF hInit cur).1) := Lib.hid (by rw [HSF.out, HE0.out])
       clear HE HE0 HTL HSF
       obtain ⟨g, rfl⟩ : ∃ g, a1 = some ⟨g, 0, none⟩ := by
        rcases HOR.out.2 with ⟨hv, hn⟩ | ⟨g, cap', cur', hv, _⟩
        · have := HNN.out; omega
        · simp only [Value.slice.injEq] at hv; exact ⟨g, hv.1⟩
       have HPN : Hid (cur.length = 64 * N) := Lib.hid HNN.out.1
       obtain ⟨_, hra6, hc6, hm6⟩ := owns_at HOR.out
       have HC6 := Lib.hid (And.intro hc6 hm6)
       have HG6 : Hid (w5.heap.size ≤ g ∧ g < wr.heap.size) := Lib.hid ⟨HFR.out g rfl, (HOR.out.lt g rfl).2⟩
       have HRW := Lib.hid (fun wx (hk : Keeps (fun i => i = B2 + 1) wr wx) => show IntsAt .u8 wx (some ⟨g, 0, none⟩) cur from hra6.same (fun a ha hl => by
        cases ha
        have := HG6.out
        have := HS5.out
        exact hk.block g hl (by omega)))
       have HKB : Hid (ArrAt wr B2 98 64 0 kAt) := Lib.hid (HK5.out.below HKR.out)
       have HHB : Hid (ArrF wr (B2 + 1) 99 8 0 (fun j => hInit.getD j 0) startsV) := Lib.hid (HH5.out.below HKR.out)
       have HKW := Lib.hid (fun wx (hk : Keeps (fun i => i = B2 + 1) wr wx) => HKB.out.same (w' := wx) (hk.block B2 HKB.out.lt (by omega)))
       have HBW := Lib.hid (fun wx (hk : Keeps (fun i => i = B2 + 1) wr wx) => show Below w.heap.size w wx from (((Keeps.of_below (S := fun _ => False) HB5.out).trans (Keeps.of_below (S := fun _ => False) HKR.out) (fun _ h => h.elim)).trans hk (fun i h => Or.inr (by have := HS2.out; omega))).below (Nat.le_refl _) (fun _ h => h.elim))
       clear hra6 hc6 hm6 HOR HKR HFR HTZ
       go_wp2_with fail
       go_loopw [8] (fun i wx => ∃ k : Nat, k ≤ N ∧ i = .int .i64 ((64 * k : Nat) : Int) ∧ ArrF wx (B2 + 1) 99 8 0 (fun j => (absN k hInit cur).1.getD j 0) startsV ∧ Keeps (fun i => i = B2 + 1) wr wx) (fun i _ => 64 * N - (intOf i).toNat)
       case atStart => exact ⟨0, Nat.zero_le _, rfl, HHB.out, Keeps.refl _ _⟩
       case round =>
        obtain ⟨k, hk, rfl, ha, hkp⟩ := hrel
        have HA := Lib.hid ha
        have HKP := Lib.hid hkp
        clear ha hkp
        by_cases hlt : k < N
        · have hrw := HRW.out wr HKP.out
          have HBL := Lib.hid (rblock_any (B2 + 1) 0 8 B2 64 99 98 (some ⟨g, 64 * k, none⟩) ((cur.drop (64 * k)).take 64) (c1 - 64 * k) (absN k hInit cur).1 wr.drew (absN_len k _ _ hInit_len) (by omega) startsV (HA.out.same rfl) (absN_in k _ _ hInit_in) ((HKW.out wr HKP.out).same rfl) (by have := HPN.out; simp; omega) ((by have := hrw.drop (64 * k); rw [Nat.zero_add] at this; exact this.same (w' := wr.drew) (fun _ _ _ => rfl) : IntsAt .u8 wr.drew (some ⟨g, 64 * k, none⟩) (cur.drop (64 * k))).take 64) (inB_take (inB_drop HPB.out _) _))
          have HSC := Lib.hid (absN_succ k hInit cur)
          have hcap := HC6.out.1
          have hln := HPN.out
          have HBD : Hid (cur.length ≤ 1099511628000) := Lib.hid (by have := HCL.out; have := HL.out; omega)
          have hbd := HBD.out
          generalize cur.length = LEN at *
          have e1 : ((64 * k : Nat) : Int).toNat = 64 * k := by omega
          have b0 : (0 : Int) ≤ ((64 * k : Nat) : Int) := by omega
          have b1 : ((64 * k : Nat) : Int) < (LEN : Int) := by omega
          have b2 : ((64 * k : Nat) : Int) ≤ ((64 * k : Nat) : Int) + 64 := by omega
          have b3 : ((64 * k : Nat) : Int) + 64 ≤ (c1 : Int) := by omega
          have b5 : ¬ c1 = 64 * k := by omega
          have e2 : (((64 * k : Nat) : Int) + 64).toNat = 64 * k + 64 := by omega
          have e3 : IntKind.i64.wrap (((64 * k : Nat) : Int) + 64) = ((64 * k : Nat) : Int) + 64 := by rw [IntKind.wrap_i64]; omega
          have e4 : 64 * k + 64 - 64 * k = 64 := by omega
          have b6 : 64 * k ≤ 64 * k + 64 := by omega
          have b7 : 64 * k + 64 ≤ c1 := by omega
          have HKK := Lib.hid (show 64 * (k + 1) = 64 * k + 64 by omega)
          have HKL := Lib.hid (show 64 * k + 64 ≤ 64 * N by omega)
          clear hln hbd hcap
          generalize 64 * k = K at *
          go_wp2_with fail
          refine wp_region_held_drew (S := fun _ => True) (by kernel_rfl) ?_ (fun hHeld => ?_)
          · trivial
          refine tk 0 47 ?_
          simp only [lz]
          refine tk 1 48 ?_
          simp only [lz]
          refine tk 2 49 ?_
          simp only [lz]
          refine tk 3 50 ?_
          simp only [lz]
          refine tk 4 51 ?_
          simp only [lz]
          refine tk 5 52 ?_
          simp only [lz]
          refine tk 6 53 ?_
          simp only [lz]
          refine wpAnyH_ready (rs := [7]) (by kernel_rfl) (by simp) ?_
          refine AllReadyH.cons rfl (fun K hK => ?_) AllReadyH.nil
          go_simp
          go_at_call 124
          refine HBL.out.mono ?_
          rintro e w9 ⟨rfl, ha9, hk9⟩
          have HA9 : Hid (ArrF w9 (B2 + 1) 99 8 0 (fun j => (absN (k + 1) hInit cur).1.getD j 0) startsV) := Lib.hid (by rw [HSC.out]; exact ha9)
          have HK9 := Lib.hid (HKP.out.drew.trans hk9 (fun i h => Or.inl h))
          clear ha9 hk9
          dsimp only
          go_wp2_with fail
          refine hK.out _ _ ?_ (fun hHeld => ?_)
          · trivial
          clear hK K
          try simp only [Act.put, lg]
          try simp only [lz]
          refine wpAnyH_done (by kernel_rfl) ?_ _
          go_wp2_with fail
          go_roundw
          case rel => first | exact ⟨k + 1, by omega, by rw [HKK.out]; go_num, HA9.out, HK9.out⟩ | ((repeat apply Exists.intro); refine ⟨?_, rfl⟩; exact ⟨k + 1, by omega, by rw [HKK.out]; go_num, HA9.out, HK9.out⟩)
          case measure => have := HKL.out; simp [intOf]; omega
        · obtain rfl : k = N := by omega
          have hln := HPN.out
          have HFS : Hid ((absN k hInit cur).1 = (absF hInit cur).1) := Lib.hid (by
           unfold absF
           rw [hln, show 64 * k / 64 = k by omega])
          have b1 : ¬ ((64 * k : Nat) : Int) < ((64 * k : Nat) : Int) := by omega
          have HAE : Hid (ArrF wr (B2 + 1) 99 8 0 (fun j => (absF hInit cur).1.getD j 0) startsV) := Lib.hid (by rw [← HFS.out]; exact HA.out)
          have H8 : Hid ((absF hInit cur).1.length = 8) := Lib.hid (absN_len _ _ _ hInit_len)
          have H8I : Hid (∀ j, InU ((absF hInit cur).1.getD j 0)) := Lib.hid (absN_in _ _ _ hInit_in)
          have HBE := Lib.hid (HBW.out wr HKP.out)
          clear HFS HA HBW HKW HRW HKB HHB HPN HNN HC6
          generalize (absF hInit cur).1 = HS at *
          rw [hln]
          clear hln
          generalize hKE : 64 * k = K at *
          clear hKE
          rename World => wE
          go_wp2_with fail
          go_loopw [9, 10] (fun v i wq => ∃ (k : Nat) (a2 : Option Addr) (c2 : Nat), k ≤ 8 ∧ i = .int .i64 k ∧ v = .slice a2 (4 * k) c2 ∧ wq.ownsRow 0 5 1 (.slice a2 (4 * k) c2) (4 * k) ((outF (HS.take k)).map (Value.int .u8)) ∧ Below wE.heap.size wE wq ∧ (∀ g, (Value.slice a2 (4 * k) c2).ownBlock = some g → wE.heap.size ≤ g)) (fun _ i _ => 8 - (intOf i).toNat)
          case atStart => exact ⟨0, none, 0, Nat.zero_le _, rfl, rfl, World.ownsRow_nil _ _ _ _, Below.refl _ _, fun g hg => by cases hg⟩
          case round =>
           obtain ⟨k, a2, c2, hk, rfl, rfl, ho, hb, hf⟩ := hrel
           have HO9 := Lib.hid ho
           have HB9 := Lib.hid hb
           have HF9 := Lib.hid hf
           have HA9 := Lib.hid (HAE.out.below hb)
           clear ho hb hf
           by_cases hlt : k < 8
           · have j0 : (0 : Int) ≤ (k : Int) := by omega
             have j1 : (k : Int) < 8 := by omega
             have HZ := Lib.hid (H8I.out k)
             have HZ8 : Hid (outF (HS.take k) ++ bytesBE (HS.getD k 0) 4 = outF (HS.take (k + 1))) := Lib.hid (by
              have hl : k < HS.length := by rw [H8.out]; exact hlt
              unfold outF
              rw [List.take_succ_eq_append_getElem hl, List.flatMap_append]
              congr 1
              simp [List.getD, List.getElem?_eq_getElem hl])
             have cz := (HA9.out.cell k hlt).1
             simp only [Nat.zero_add] at cz
             have HOL : Hid ((outF (HS.take k)).length = 4 * k) := Lib.hid (by rw [outF_len, List.length_take, H8.out]; omega)
             generalize HS.getD k 0 = z at *
             go_wp2_with fail
             refine wp_region_held_drew (S := fun w' => w'.cell? ⟨B2 + 1, k, none⟩ = some (.int .u32 z)) (by kernel_rfl) ?_ (fun hHeld => ?_)
             · exact cz
             refine tk 0 59 ?_
             simp only [lz]
             refine tk 1 60 ?_
             simp only [lz]
             refine tk 2 61 ?_
             simp only [lz]
             refine tk 3 62 ?_
             simp only [lz]
             refine tk 4 63 ?_
             simp only [lz]
             refine tk 5 64 ?_
             simp only [lz]
             refine tk 6 65 ?_
             simp only [lz]
             refine tk 7 66 ?_
             simp only [lz]
             refine tk 8 67 ?_
             simp only [lz]
             refine tk 9 68 ?_
             simp only [lz]
             refine tk 10 69 ?_
             simp only [lz]
             refine tk 11 70 ?_
             simp only [lz]
             refine tk 12 71 ?_
             simp only [lz]
             refine tk 13 72 ?_
             simp only [lz]
             refine tk 14 73 ?_
             simp only [lz]
             refine tk 15 74 ?_
             simp only [lz]
             refine tk 16 75 ?_
             simp only [lz]
             refine tk 17 76 ?_
             simp only [lz]
             refine tk 18 77 ?_
             simp only [lz]
             refine tk 19 78 ?_
             simp only [lz]
             refine wpAnyH_ready (rs := [20]) (by kernel_rfl) (by simp) ?_
             refine AllReadyH.cons rfl (fun K hK => ?_) AllReadyH.nil
             go_simp
             go_wp2_with fail
             refine hK.out _ _ ?_ (fun hHeld => ?_)
             · exact (World.cell?_alloc_past _ _ _ (by have := HA9.out.lt; simpa using this)).trans cz
             clear hK K
             try simp only [Act.put, lg]
             try simp only [lz]
             have HZB : Hid (bytesBE z 4 = [IntKind.u8.wrap (z / 16777216), IntKind.u8.wrap (z / 65536), IntKind.u8.wrap (z / 256), IntKind.u8.wrap z]) := Lib.hid (by
              show [z / 256 ^ 3 % 256, z / 256 ^ 2 % 256, z / 256 ^ 1 % 256, z / 256 ^ 0 % 256] = _
              rw [IntKind.wrap_u8, IntKind.wrap_u8, IntKind.wrap_u8, IntKind.wrap_u8, show (256 : Int) ^ 3 = 16777216 by decide, show (256 : Int) ^ 2 = 65536 by decide, show (256 : Int) ^ 1 = 256 by decide, show (256 : Int) ^ 0 = 1 by decide, Int.ediv_one])
             refine wpAnyH_ready (rs := [21]) (by kernel_rfl) (by simp) ?_
             refine AllReadyH.cons rfl (fun K hK => ?_) AllReadyH.nil
             refine step_append_any (by rfl) _ _ 62 (by rfl) 5 i0 (.int .u8 0) 1 1 Tryz.underlying62 hi hz0 hz1 hz2 rfl (by decide) (.slice a2 (4 * k) c2) (4 * k) ((outF (HS.take k)).map (Value.int .u8)) (by rfl) (ownsRow_same (HO9.out.alloc _) (fun _ _ => rfl)) (some ⟨wr.heap.size, 0, none⟩) 4 4 [.int .u8 (IntKind.u8.wrap (z / 16777216)), .int .u8 (IntKind.u8.wrap (z / 65536)), .int .u8 (IntKind.u8.wrap (z / 256)), .int .u8 (IntKind.u8.wrap z)] (by rfl) (by rfl) (fun e => by cases e) (fun ad had => by cases had; exact World.news_of_block (heap_alloc_new _ _)) (by simp [Value.oneCell']) (by unfold maxLen; omega) (by omega) ?_
             intro ao2 cap2 w8 hown hgrow hat hnn
             have HO10 : Hid (w8.ownsRow 0 5 1 (.slice ao2 (4 * (k + 1)) cap2) (4 * (k + 1)) ((outF (HS.take (k + 1))).map (Value.int .u8))) := Lib.hid (by rw [← HZ8.out, HZB.out, show 4 * (k + 1) = 4 * k + 4 by omega]; simpa using hown)
             have HB10 : Hid (Below wE.heap.size wE w8) := Lib.hid ((HB9.out.alloc (by have := HB9.out.size; omega) _).drew.grown hgrow (by have := HB9.out.size; simp; omega) (fun k hk => HF9.out k hk))
             have HF10 : Hid (∀ g, (Value.slice ao2 (4 * (k + 1)) cap2).ownBlock = some g → wE.heap.size ≤ g) := Lib.hid (fun g hg => by
              rcases hat g hg with h | h
              · exact HF9.out g h
              · have := HB9.out.size; simp at h; omega)
             have cz8 : w8.cell? ⟨B2 + 1, k, none⟩ = some (.int .u32 z) := hgrow.cell hHeld (by intro e; have h1 := HF9.out _ e.symm; have h2 := HAE.out.lt; dsimp only at h1; omega)
             clear hown hgrow hat hnn
             go_wp2_with fail
             refine hK.out _ _ ?_ (fun hHeld => ?_)
             · exact cz8
             clear hK K
             try simp only [Act.put, lg]
             try simp only [lz]
             refine tk 22 9 ?_
             simp only [lz]
             refine wpAnyH_done (by kernel_rfl) ?_ _
             go_wp2_with fail
             go_roundw
             case rel => first | exact ⟨k + 1, ao2, cap2, by omega, by go_num, rfl, HO10.out, HB10.out, HF10.out⟩ | ((repeat apply Exists.intro); refine ⟨?_, rfl⟩; exact ⟨k + 1, ao2, cap2, by omega, by go_num, rfl, HO10.out, HB10.out, HF10.out⟩)
             case measure => simp [intOf]; omega
           · obtain rfl : k = 8 := by omega
             have HOE : Hid (wr.ownsRow 0 5 1 (.slice a2 32 c2) 32 ((shaF zs).map (Value.int .u8))) := Lib.hid (by
              have h1 := HO9.out
              rw [List.take_of_length_le (by rw [H8.out]; exact Nat.le_refl _), ← HSF2.out] at h1
              exact h1)
             go_wp2_with fail
             go_ret
             exact ⟨a2, c2, ret_val (a := .slice a2 32 c2) (by rw [shaF_len]), by rw [shaF_len]; exact ⟨by rw [shaF_len]; exact HOE.out, HBE.out.trans (HB9.out.mono HBE.out.size), fun g hg => Nat.le_trans HBE.out.size (HF9.out g hg)⟩⟩
     | succ j =>
       have j8 : (j : Int) < 8 := by omega
       have hw : wrap64 (8 * (j : Int)) = 8 * (j : Int) := by unfold wrap64; omega
       have hw2 : IntKind.u64.wrap (8 * (j : Int)) = 8 * (j : Int) := by rw [IntKind.wrap_u64]; omega
       have hs0 : (0 : Int) ≤ 8 * (j : Int) := by omega
       have hs1 : (8 : Int) * (j : Int) ≤ 64 := by omega
       have HP : Hid ((2 : Int) ^ ((8 * (j : Int)).toNat) = 256 ^ j) := Lib.hid (by
        rw [show (8 * (j : Int)).toNat = 8 * j by omega, show (256 : Int) = 2 ^ 8 from by decide, ← Int.pow_mul])
       have HE1 : Hid ((cur ++ [N8 / 256 ^ j % 256]) ++ bytesBE N8 j = zs ++ tailF zs) := Lib.hid (by
        have h1 := HE.out
        rw [List.append_assoc]; exact h1)
       go_wp2_with (at_builtin; refine wpList_append_any rfl _ _ 62 rfl 5 i0 (.int .u8 0) 1 1 Tryz.underlying62 hi hz0 hz1 hz2 rfl (by decide) (.slice a1 cur.length c1) cur.length (cur.map (Value.int .u8)) rfl (HOR.out.alloc _) (some ⟨wr.heap.size, 0, none⟩) 1 1 [.int .u8 (N8 / 2 ^ ((8 * (j : Int)).toNat) % 256)] rfl rfl ?c2 (fun ad had => by cases had; exact cell_one_new _ _ _) (by simp [Value.oneCell']) ?c5 ?c6 ?_)
       case c2 => intro e; cases e
       case c5 => have := HCL.out; have := HL.out; unfold maxLen; omega
       case c6 => have := HCL.out; have := HL.out; omega
       intro ao' cap' w8 hown hgrow hat hnn
       rw [HP.out] at hown
       have HO2 : Hid (w8.ownsRow 0 5 1 (.slice ao' (cur.length + 1) cap') (cur.length + 1) ((cur ++ [N8 / 256 ^ j % 256]).map (Value.int .u8))) := Lib.hid (by simpa using hown)
       have HK2 : Hid (Below w5.heap.size w5 w8) := Lib.hid ((HKR.out.alloc (by have := HKR.out.size; omega) _).grown hgrow (by have := HKR.out.size; simp; omega) (fun k hk => HFR.out k hk))
       have HF2 : Hid (∀ g, (Value.slice ao' (cur.length + 1) cap').ownBlock = some g → w5.heap.size ≤ g) := Lib.hid (fun g hg => by
        rcases hat g hg with h | h
        · exact HFR.out g h
        · have := HKR.out.size; omega)
       clear hown hgrow hat hnn
       go_wp2
       go_roundw
       case rel => first | exact ⟨j, cur ++ [N8 / 256 ^ j % 256], ao', cap', by omega, by go_num, by simp, HE1.out, by simpa using HO2.out, HK2.out, by simpa using HF2.out⟩ | ((repeat apply Exists.intro); refine ⟨?_, rfl⟩; exact ⟨j, cur ++ [N8 / 256 ^ j % 256], ao', cap', by omega, by go_num, by simp, HE1.out, by simpa using HO2.out, HK2.out, by simpa using HF2.out⟩)
       case measure => simp [intOf]; try omega
theorem IntsAt.far {k : IntKind} {w : World} {ao : Option Addr} {zs : List Int} (h : IntsAt k w ao zs) {p : Nat} (hp : w.heap.size ≤ p) : zs = [] ∨ ∀ a, ao = some a → a.block ≠ p := by
 by_cases h0 : zs = []
 · exact Or.inl h0
 · refine Or.inr (fun a ha e => ?_)
   subst ha
   have := h.lt h0
   omega
set_option maxHeartbeats 1000000 in
theorem one_any (tb : Nat) (ao : Option Addr) (bs : List Int) (n cap : Nat) (w : World) (ht : TabOk w tb) (hn : bs.length = n) (hz : IntsAt .u8 w ao bs) (hB : InB bs) (hd : bs = [] ∨ ∀ a, ao = some a → a.block ≠ tb) (hlen : n ≤ 1099511627776) :
 Calls Tryz.prog 102 #[.pointer (some ⟨tb, 0, none⟩), .slice ao n cap] w fun e w' => SumPost w tb (shaF bs) e w' := by
 have HT := Lib.hid ht
 have HN := Lib.hid hn
 have HZ := Lib.hid hz
 have HB := Lib.hid hB
 have HL := Lib.hid hlen
 have HD := Lib.hid hd
 have HNW := Lib.hid (new_any tb w ht)
 clear ht hn hz hB hlen hd
 go_enter Tryz.func102, Tryz.ntmps102
 go_wp2_with fail
 refine HNW.out.mono ?_
 rintro e w1 ⟨rfl, ht1, hh1, hk1⟩
 have HK1 := Lib.hid hk1
 have hz1 : IntsAt .u8 w1 ao bs := by
  rcases HD.out with h | h
  · exact Or.inl h
  · exact HZ.out.same (fun a ha hl => hk1.block a.block hl (h a ha))
 have HWR := Lib.hid (write_any w.heap.size tb _ [] w1 ht1 hh1 ao bs n cap HN.out hz1 HB.out (HZ.out.far (Nat.le_refl _)) (by have := HL.out; simp; omega))
 clear ht1 hh1 hk1 hz1
 go_wp2_with fail
 refine HWR.out.mono ?_
 rintro e w2 ⟨rfl, v, ht2, hh2, hk2, hf2⟩
 rw [List.nil_append] at hh2
 have HS := Lib.hid (shaSum_any w.heap.size tb v bs w2 ht2 hh2 (by have := HL.out; have := HN.out; omega))
 have HK2 : Hid (Keeps (fun i => i = tb) w w2) := Lib.hid (HK1.out.trans hk2 (fun i h => by
  rcases h with h | h | h
  · exact Or.inl h
  · exact Or.inr (by omega)
  · cases h))
 clear ht2 hh2 hk2 hf2
 go_wp2_with fail
 refine HS.out.mono ?_
 rintro e w3 ⟨g, c, rfl, ht3, ho3, hl3, hk3, hg3⟩
 have HO3 := Lib.hid ho3
 have HT3 := Lib.hid ht3
 have HL3 := Lib.hid hl3
 have HK3 := Lib.hid (HK2.out.trans hk3 (fun i h => Or.inl h))
 have HG3 := Lib.hid (Nat.le_trans HK2.out.size hg3)
 clear ht3 ho3 hl3 hk3 hg3
 go_wp2
 go_ret
 exact ⟨g, c, rfl, HT3.out, HO3.out, HL3.out, HK3.out, HG3.out⟩

def fewB (ls : List Nat) (many room : Nat) : Bool := decide (ls.length ≤ many ∧ ((ls.take many).map (fun n => min n (room + 1))).sum ≤ room)
theorem sum_min_bound (ls : List Nat) (room : Nat) : (ls.map (fun n => min n (room + 1))).sum ≤ ls.length * (room + 1) := by
 induction ls with
 | nil => simp
 | cons x xs ih => simp only [List.map_cons, List.sum_cons, List.length_cons]; rw [Nat.add_mul]; omega
theorem sum_take_succ (ls : List Nat) (k : Nat) (h : k < ls.length) : (ls.take (k + 1)).sum = (ls.take k).sum + ls[k] := by
 rw [List.take_succ_eq_append_getElem h, List.sum_append]; simp
section
open Go.ChangeShapes Go.WideShapes Go.ChangeAt Go.Deep
structure BSl where
 ao : Option Addr
 zs : List Int
 cap : Nat
def BSl.val (b : BSl) : Value := .slice b.ao b.zs.length b.cap
def BSl.ok (w : World) (b : BSl) : Prop := IntsAt .u8 w b.ao b.zs ∧ InB b.zs ∧ b.zs.length ≤ b.cap ∧ b.cap ≤ maxLen ∧ (b.zs = [] ∨ ∀ a, b.ao = some a → a.block < w.heap.size)
def BytesList (w : World) (ao : Option Addr) (bs : List BSl) : Prop :=
 (bs = [] ∨ ∃ b off, ao = some ⟨b, off, none⟩ ∧ ∀ i (h : i < bs.length), w.cell? ⟨b, off + i, none⟩ = some bs[i].val) ∧ ∀ x ∈ bs, x.ok w
theorem BSl.ok.below {w w' : World} {b : BSl} (h : b.ok w) (hb : Below w.heap.size w w') : b.ok w' :=
 ⟨ints_below h.1 hb, h.2.1, h.2.2.1, h.2.2.2.1, h.2.2.2.2.imp id (fun h a ha => Nat.lt_of_lt_of_le (h a ha) hb.size)⟩
theorem BytesList.below {w w' : World} {ao : Option Addr} {bs : List BSl} (h : BytesList w ao bs) (hb : Below w.heap.size w w') : BytesList w' ao bs := by
 refine ⟨?_, fun x hx => (h.2 x hx).below hb⟩
 rcases h.1 with h | ⟨b, off, h1, h2⟩
 · exact Or.inl h
 · exact Or.inr ⟨b, off, h1, fun i hi => by
    have hl := World.block_lt_of_cell? w _ (h2 i hi)
    rw [hb.cell (p := ⟨b, off + i, none⟩) hl]; exact h2 i hi⟩
theorem inB_of_wf {zs : List Int} (h : ∀ n ∈ zs, (Lit.int .u8 n).wf = true) : InB zs := fun z hz => bounds_u8 (h z hz)
section
variable {H : Type} {enc : TypeId × Value → H} {P : Program} {W : World}
instance : Inhabited BSl := ⟨⟨none, [], 0⟩⟩
end
end
theorem below_step {a b c : World} (h : Below a.heap.size a b) (hk : Below b.heap.size b c) : Below a.heap.size a c := h.trans (hk.mono h.size)
theorem Keeps.step {a b c : World} {S : Nat → Prop} (h : Keeps S a b) (hk : Below b.heap.size b c) : Keeps S a c := h.trans (Keeps.of_below (S := fun _ => False) hk) (fun _ h => h.elim)
theorem cells_type {cs cs' : Array Value} {t t' : TypeId} {f f' : Nat × Nat} (h : some (Obj.cells cs t f) = some (Obj.cells cs' t' f')) : t = t' := by
 injection h with h
 injection h
theorem row_ty {w : World} {T : TypeId} {sz : Nat} {v : Value} {n : Nat} {xs : List Value} (h : w.ownsRow 0 T sz v n xs) {g : Nat} (hg : v.ownBlock = some g) : ∃ cur, w.heap[g]? = some (.cells cur T (0, 0)) := by
 rcases h.2 with ⟨hv, _⟩ | ⟨g', cap', cur, hv, hb, hh, _⟩
 · rw [hv] at hg; cases hg
 · rw [hv] at hg; cases hg; exact ⟨cur, hh⟩
def TyAt (w : World) (i : Nat) (T : TypeId) : Prop := ∃ cs f, w.heap[i]? = some (.cells cs T f)
theorem TyAt.ne {w : World} {g i : Nat} {cs : Array Value} {T T' : TypeId} {f : Nat × Nat} (h : TyAt w i T') (h1 : w.heap[g]? = some (.cells cs T f)) (hne : T ≠ T') : g ≠ i := by
 intro e
 obtain ⟨cs', f', h2⟩ := h
 rw [e, h2] at h1
 exact hne (cells_type h1).symm
theorem TabOk.ty {w : World} {tb : Nat} (h : TabOk w tb) : TyAt w tb 101 := by
 rcases h with ⟨_, _, cs, h, _⟩ | ⟨cs, h, _⟩ <;> exact ⟨_, _, h⟩
theorem own_cell {w : World} {e : TypeId} {sz n cap : Nat} {ao : Option Addr} {xs : List Value} (h : w.ownsRow 0 e sz (.slice ao n cap) n xs) (hn : 0 < n) : ∃ b, ao = some ⟨b, 0, none⟩ ∧ (∀ j u, xs[j]? = some u → w.cell? ⟨b, j, none⟩ = some u) := by
 rcases h.2 with ⟨hv, h0⟩ | ⟨b, cap', cur, hv, _, hh, hnc, hcm, hcs, ht⟩
 · omega
 · simp only [Value.slice.injEq] at hv
   obtain ⟨rfl, _, _⟩ := hv
   refine ⟨b, rfl, fun j u hj => ?_⟩
   rw [blk_cell hh]
   rw [← ht] at hj
   rw [List.getElem?_take] at hj
   split at hj
   · simpa using hj
   · cases hj
theorem flat_get {α : Type} (f : α → List Value) (sz : Nat) (hf : ∀ x, (f x).length = sz) : ∀ (l : List α) (i : Nat) (hi : i < l.length) (j : Nat) (hj : j < sz), (l.flatMap f)[i * sz + j]? = (f l[i])[j]?
 | [], i, hi, _, _ => by simp at hi
 | x :: l, 0, _, j, hj => by
   rw [List.flatMap_cons, Nat.zero_mul, Nat.zero_add, List.getElem?_append_left (by rw [hf]; exact hj)]
   rfl
 | x :: l, i + 1, hi, j, hj => by
   have ih := flat_get f sz hf l i (by simpa using hi) j hj
   rw [List.flatMap_cons, List.getElem?_append_right (by rw [hf, Nat.add_mul]; omega), hf]
   rw [show (i + 1) * sz + j - sz = i * sz + j by rw [Nat.add_mul]; omega, ih]
   rfl
theorem own_shape {w : World} {e : TypeId} {sz n : Nat} {v : Value} {xs : List Value} (h : w.ownsRow 0 e sz v n xs) : ∃ ao c, v = .slice ao n c ∧ n ≤ c ∧ c ≤ maxLen := by
 rcases h.2 with ⟨hv, h0⟩ | ⟨b, cap', cur, hv, hb, hh, hnc, hcm, hcs, ht⟩
 · exact ⟨none, 0, by rw [hv, h0], by omega, by unfold maxLen; omega⟩
 · exact ⟨_, cap', hv, by assumption, by assumption⟩
theorem below_undrew {w w' : World} (h : Below w.drew.heap.size w.drew w') : Below w.heap.size w w' := ⟨h.os, h.tape, h.output, h.size, h.block⟩
theorem keeps_undrew {S : Nat → Prop} {w w' : World} (h : Keeps S w.drew w') : Keeps S w w' := ⟨h.os, h.tape, h.output, h.size, h.block⟩
theorem tab_keep {w w' : World} {b : Nat} {S : Nat → Prop} (h : TabOk w b) (hk : Keeps S w w') (hS : ¬ S b) : TabOk w' b := h.same (hk.block b h.lt hS)
theorem below_fp {a b c : World} {S : Nat → Prop} (h : Below a.heap.size a b) (hk : Keeps S b c) (hS : ∀ i, S i → a.heap.size ≤ i) : Below a.heap.size a c :=
 h.trans (hk.below h.size hS)
def BufAt (T : TypeId) (w : World) (p : Nat) (v : Value) (bs : List Int) (x : Value) : Prop :=
 w.heap[p]? = some (.cells #[v, x] T (0, 0)) ∧ w.ownsRow 0 5 1 v bs.length (bs.map (Value.int .u8)) ∧ v.ownBlock ≠ some p
def BufPost (T : TypeId) (w : World) (p : Nat) (v : Value) (bs : List Int) (x : Value) (w' : World) : Prop :=
 ∃ v', BufAt T w' p v' bs x ∧ Keeps (fpE p v) w w' ∧ (∀ g, v'.ownBlock = some g → v.ownBlock = some g ∨ w.heap.size ≤ g)
section
variable {T : TypeId} {w w' w1 w2 : World} {p : Nat} {v v1 : Value} {bs : List Int} {x : Value}
theorem BufAt.lt (h : BufAt T w p v bs x) : ∀ k, fpE p v k → k < w.heap.size := by
 rintro k (rfl | hk)
 · exact blk_lt h.1
 · exact (h.2.1.lt k hk).2
theorem BufAt.keep {S : Nat → Prop} (h : BufAt T w p v bs x) (hk : Keeps S w w') (hs : ∀ k, fpE p v k → ¬ S k) : BufAt T w' p v bs x :=
 ⟨(hk.block p (h.lt p (Or.inl rfl)) (hs p (Or.inl rfl))).trans h.1, ownsRow_same h.2.1 (fun g hg => hk.block g (h.lt g (Or.inr hg)) (hs g (Or.inr hg))), h.2.2⟩
theorem BufAt.below (h : BufAt T w p v bs x) (hb : Below w.heap.size w w') : BufAt T w' p v bs x := h.keep (Keeps.of_below (S := fun _ => False) hb) (fun _ _ f => f)
theorem BufAt.cells (h : BufAt T w p v bs x) : w.cell? ⟨p, 0, none⟩ = some v ∧ w.cell? ⟨p, 1, none⟩ = some x ∧ w.frozen? ⟨p, 0, none⟩ = false ∧ w.frozen? ⟨p, 1, none⟩ = false := by
 have c0 := blk_cell h.1 0
 have c1 := blk_cell h.1 1
 simp only [lq] at c0 c1
 exact ⟨c0, c1, blk_frozen h.1 0, blk_frozen h.1 1⟩
theorem BufPost.refl (h : BufAt T w p v bs x) : BufPost T w p v bs x w := ⟨v, h, Keeps.refl _ _, fun _ h => Or.inl h⟩
theorem BufPost.trans (hK : Keeps (fpE p v) w w1) (hF : ∀ g, v1.ownBlock = some g → v.ownBlock = some g ∨ w.heap.size ≤ g) (h : BufPost T w1 p v1 bs x w2) : BufPost T w p v bs x w2 := by
 obtain ⟨v2, h1, h2, h3⟩ := h
 refine ⟨v2, h1, hK.trans h2 ?_, fun g hg => ?_⟩
 · rintro i (hi | hi)
   · exact Or.inl (Or.inl hi)
   · rcases hF i hi with h | h
     · exact Or.inl (Or.inr h)
     · exact Or.inr h
 · rcases h3 g hg with h | h
   · exact hF g h
   · exact Or.inr (Nat.le_trans hK.size h)
theorem buf_set (h : BufAt T w p v bs x) (y : Value) : BufPost T w p v bs y (w.setCell ⟨p, 1, none⟩ y) := by
 obtain ⟨hp, hown, hne⟩ := h
 exact ⟨v, ⟨by simpa using blk_set hp 1 y, ownsRow_same hown (fun g hg => Below.heap_setCell _ _ _ _ (fun e => hne (by rw [hg, e]))), hne⟩, (Keeps.refl _ _).setCell (Or.inl (Or.inl rfl)) _, fun _ h => Or.inl h⟩
theorem buf_app {wa : World} {zs : List Int} {ao : Option Addr} {N cap : Nat}
 (h : BufAt T w p v bs x) (hwa : Keeps (fun _ => False) w wa)
 (hown : w1.ownsRow 0 5 1 (.slice ao N cap) N ((bs ++ zs).map (Value.int .u8))) (hgrow : wa.grownBy w1 v.ownBlock) (hat : ∀ g, (Value.slice ao N cap).ownBlock = some g → v.ownBlock = some g ∨ w.heap.size ≤ g) :
 BufPost T w p v (bs ++ zs) x (w1.setCell ⟨p, 0, none⟩ (.slice ao N cap)) := by
 have hpl := blk_lt h.1
 have hgp : ∀ g, (Value.slice ao N cap).ownBlock = some g → g ≠ p := by
  intro g hg e'
  rcases hat g hg with e | e
  · exact h.2.2 (by rw [e, e'])
  · omega
 have hpb : w1.heap[p]? = some (.cells #[v, x] T (0, 0)) := by
  rw [hgrow.block p (by have := hwa.size; omega) (fun e => h.2.2 e.symm), hwa.block p hpl (fun f => f)]; exact h.1
 have hkw : Keeps (fpE p v) w w1 := (hwa.mono (fun _ _ f => f.elim)).grown hgrow (fun k hk' => Or.inl (Or.inr hk'))
 have hN : (bs ++ zs).length = N := (owns_at hown).1
 refine ⟨_, ⟨?_, ?_, fun hx => hgp p hx rfl⟩, hkw.setCell (Or.inl (Or.inl rfl)) _, hat⟩
 · have := blk_set hpb 0 (.slice ao N cap)
   simpa using this
 · rw [hN]
   exact ownsRow_same hown (fun g' hg' => Below.heap_setCell _ _ _ _ (hgp g' hg'))
theorem BufPost.below {B : Nat} (h : BufPost T w p v bs x w') (hB : B ≤ w.heap.size) (hp : B ≤ p) (hv : ∀ g, v.ownBlock = some g → B ≤ g) : Below B w w' := by
 obtain ⟨_, _, hK, _⟩ := h
 exact hK.below hB (fun k hk => by rcases hk with rfl | hk; exact hp; exact hv k hk)
theorem buf_new (w : World) (T : TypeId) (x : Value) : BufAt T (w.alloc (.cells #[.slice none 0 0, x] T)) w.heap.size (.slice none 0 0) [] x :=
 ⟨heap_alloc_new w _, World.ownsRow_nil _ _ _ _, fun h => by cases h⟩
end
def strNums (s : ByteArray) : List Int := s.data.toList.map fun b => (b.toNat : Int)
theorem strNums_length (s : ByteArray) : (strNums s).length = s.size := by simp [strNums]
theorem strNums_cells (s : ByteArray) : (strNums s).map (Value.int .u8) = Lib.strCells s := by simp [strNums, Lib.strCells]
theorem strNums_in (s : ByteArray) : ∀ z ∈ strNums s, 0 ≤ z ∧ z ≤ 255 := by
 intro z hz
 simp only [strNums, List.mem_map] at hz
 obtain ⟨b, _, rfl⟩ := hz
 have := b.toNat_lt
 omega
theorem run_append_str {P : Program} (w : World) (t u ty e : TypeId) (i : TypeInfo) (ht : P.underlying t = some (.slice e)) (hu : P.underlying u = some .string) (hi : P.info? e = some i) (hz : i.zero = some (.int .u8 0))
 (hsize : i.size = 1) (hby : i.bytes = 1) (v : Value) (n : Nat) (xs : List Value) (hown : w.ownsRow 0 e 1 v n xs) (s : ByteArray) (h63 : n + s.size ≤ maxLen) (hbytes : n + s.size ≤ 140737488355328) :
 ∃ ao cap w', (Builtin.append_ #[t, u] ty #[v, .string s]).run P w = .ok (.slice ao (n + s.size) cap) w' ∧ w'.ownsRow 0 e 1 (.slice ao (n + s.size) cap) (n + s.size) (xs ++ Lib.strCells s) ∧ w.grownBy w' v.ownBlock ∧
  (∀ g, (Value.slice ao (n + s.size) cap).ownBlock = some g → v.ownBlock = some g ∨ g = w.heap.size) := by
 obtain ⟨v', w', hr, h2, h3, h4⟩ := Lib.run_append_own_string (P := P) w 0 t u ty e i ht hu hi hz hsize hby v n xs hown s h63 hbytes (Nat.zero_le _)
 have hf : ∃ ao cap, v' = .slice ao (n + s.size) cap := by
  rcases h2.2 with ⟨hv, hn⟩ | ⟨g, cap, cur, hv, _⟩
  · exact ⟨none, 0, by rw [hv, hn]⟩
  · exact ⟨_, cap, hv⟩
 obtain ⟨ao, cap, rfl⟩ := hf
 refine ⟨ao, cap, w', hr, h2, h3, fun g hg => ?_⟩
 have hm1 : n + s.size ≤ 9223372036854775807 := by unfold maxLen at h63; omega
 rcases hown.2 with ⟨rfl, rfl⟩ | ⟨g0, cap0, cur, rfl, _, hg0, hnc, hcm, hcs, htake⟩
 · by_cases hm : s.size = 0
   · rw [h4.2 ⟨rfl, hm⟩] at hg; cases hg
   · have hr2 := run_append_nil_string (P := P) w t u ty e i (.int .u8 0) ht hu hi hz s (by omega) (by omega) (by rw [hby]; omega)
     rw [hr] at hr2
     injection hr2 with h5 h6
     rw [h5] at hg
     simp only [Value.ownBlock, Option.some.injEq] at hg
     exact Or.inr hg.symm
 · by_cases hroom : n + s.size ≤ cap0
   · have hr2 := Lib.run_append_room_string (P := P) w t u ty e i ht hu hi hsize g0 n cap0 cur hg0 s hroom (by omega)
     rw [hr] at hr2
     injection hr2 with h5 h6
     rw [h5] at hg
     exact Or.inl hg
   · have hxl : xs.length = n := by simpa using hown.1
     have hr2 := Lib.run_append_grow_string (P := P) w t u ty e i (.int .u8 0) ht hu hi hz ⟨g0, 0, none⟩ n cap0 xs (by rw [hsize]; simpa using hxl) (hown.cells (g := g0) rfl) s (by omega) (by omega) (by rw [hby]; exact growslice_fits (by omega) (by omega))
     rw [hr] at hr2
     injection hr2 with h5 h6
     rw [h5] at hg
     simp only [Value.ownBlock, Option.some.injEq] at hg
     exact Or.inr hg.symm
theorem wp_append_str {P : Program} {w : World} {o : Oper} {a : Act} {K : Act → World → Prop} {Q : Exit → Act → World → Prop} (sl x : Operand) (t u : TypeId)
 (ho : o.op = .call { callee := .builtin .append, args := #[sl, x], argTypes := #[t, u] })
 (e : TypeId) (i : TypeInfo) (ht : P.underlying t = some (.slice e)) (hu : P.underlying u = some .string) (hi : P.info? e = some i) (hz : i.zero = some (.int .u8 0)) (hsize : i.size = 1) (hby : i.bytes = 1)
 (v : Value) (n : Nat) (xs : List Value) (hs : a.eval sl = v) (hown : w.ownsRow 0 e 1 v n xs) (s : ByteArray) (hx : a.eval x = .string s)
 (h63 : n + s.size ≤ maxLen) (hbytes : n + s.size ≤ 140737488355328)
 (h : ∀ ao cap w', w'.ownsRow 0 e 1 (.slice ao (n + s.size) cap) (n + s.size) (xs ++ Lib.strCells s) → w.grownBy w' v.ownBlock → (∀ g, (Value.slice ao (n + s.size) cap).ownBlock = some g → v.ownBlock = some g ∨ g = w.heap.size) → K (a.put o.dst (.slice ao (n + s.size) cap)) w') : o.wp P a w K Q := by
 obtain ⟨ao, cap, w', hr, h2, h3, h4⟩ := run_append_str (P := P) w t u o.type e i ht hu hi hz hsize hby v n xs hown s h63 hbytes
 unfold Oper.wp execOp
 simp only [ho, resolve, invoke, builtin, Sem.run_bind, Sem.run_pure, Result.andThen_ok, List.map_toArray, List.map_cons, List.map_nil, hs, hx, hr]
 exact h ao cap w' h2 h3 h4
theorem step_append_str {P : Program} {w : World} {ops : Array Oper} {o : Oper} {a : Act} {K : Act → World → Prop} {Q : Exit → Act → World → Prop} {E : Prop} (hgd : o.guard = none) (sl x : Operand) (t u : TypeId)
 (ho : o.op = .call { callee := .builtin .append, args := #[sl, x], argTypes := #[t, u] })
 (e : TypeId) (i : TypeInfo) (ht : P.underlying t = some (.slice e)) (hu : P.underlying u = some .string) (hi : P.info? e = some i) (hz : i.zero = some (.int .u8 0)) (hsize : i.size = 1) (hby : i.bytes = 1)
 (v : Value) (n : Nat) (xs : List Value) (hs : a.eval sl = v) (hown : w.ownsRow 0 e 1 v n xs) (s : ByteArray) (hx : a.eval x = .string s)
 (h63 : n + s.size ≤ maxLen) (hbytes : n + s.size ≤ 140737488355328)
 (h : ∀ ao cap w', w'.ownsRow 0 e 1 (.slice ao (n + s.size) cap) (n + s.size) (xs ++ Lib.strCells s) → w.grownBy w' v.ownBlock → (∀ g, (Value.slice ao (n + s.size) cap).ownBlock = some g → v.ownBlock = some g ∨ g = w.heap.size) → K (a.put o.dst (.slice ao (n + s.size) cap)) w') :
 if Region.wanted o (yielded ops a.tmps) = true then Oper.wp P o a w K Q else E := by
 have hw : Region.wanted o (yielded ops a.tmps) = true := by simp [Region.wanted, hgd]
 rw [if_pos hw]
 exact wp_append_str sl x t u ho e i ht hu hi hz hsize hby v n xs hs hown s hx h63 hbytes h
theorem next_step {P : Program} (w : World) (q : Nat) (s : ByteArray) (pos : Nat) (hq : w.heap[q]? = some (.stringIter s pos)) (h : pos < s.size) (ha : (s[pos]'h).toNat < 128) :
 ∃ w', (∀ ty, (Instr.next (.pointer (some ⟨q, 0, none⟩)) true ty).run P w = .ok (.tuple #[.bool true, .int .i64 pos, .int .i32 (s[pos]'h).toNat]) w') ∧ w'.heap[q]? = some (.stringIter s (pos + 1)) ∧ Keeps (fun k => k = q) w w' := by
 have hql := blk_lt hq
 refine ⟨{ w with heap := w.heap.setIfInBounds q (.stringIter s (pos + 1)) }, fun ty => ?_, ?_, ⟨rfl, rfl, rfl, by simp, fun k hk hn => ?_⟩⟩
 · simp only [Instr.next, getObj, setObj, Sem.run_bind, Sem.run, hq, Result.andThen, h, if_true, decode_ascii s pos h ha]
   simp [goInt]
 · simp [hql]
 · simp only []
   rw [Array.getElem?_setIfInBounds_ne (Ne.symm hn)]
theorem next_stop {P : Program} (w : World) (q : Nat) (s : ByteArray) (pos : Nat) (hq : w.heap[q]? = some (.stringIter s pos)) (h : ¬ pos < s.size) (ty : TypeId) :
 (Instr.next (.pointer (some ⟨q, 0, none⟩)) true ty).run P w = .ok (.tuple #[.bool false]) w := by
 simp [Instr.next, getObj, Sem.run, hq, h]
theorem bytes_below (w : World) (e : TypeId) (s : ByteArray) : Below w.heap.size w (Lib.bytesWorld w e s) :=
 ⟨rfl, rfl, rfl, by rw [Lib.bytesWorld_size]; omega, fun k hk => Lib.bytesWorld_at_old w e s k hk⟩
theorem bytes_ints (w : World) (e : TypeId) (s : ByteArray) : IntsAt .u8 (Lib.bytesWorld w e s) (some ⟨w.heap.size, 0, none⟩) (strNums s) :=
 Or.inr ⟨w.heap.size, 0, rfl, fun i hi => by
  rw [strNums_length] at hi
  rw [Nat.zero_add, Lib.bytesWorld_cell w e s i hi]
  congr 2
  unfold strNums
  simp [List.getD, hi]⟩
structure XR where
 f : Int
 t : Int
 a : Int
 n : Int
 d : Int
 s : Int
 h : ByteArray
 x : ByteArray
instance : Inhabited XR := ⟨⟨0, 0, 0, 0, 0, 0, ⟨#[]⟩, ⟨#[]⟩⟩⟩
def XR.cells (x : XR) : Array Value := #[.int .i64 x.f, .int .i64 x.t, .int .i64 x.a, .int .i64 x.n, .int .i64 x.d, .int .i64 x.s, .string x.h, .string x.x]
def XR.list (x : XR) : List Value := x.cells.toList
def XR.close (x : XR) (st : Int) (sec : ByteArray) : XR := ⟨x.f, x.t, x.a, x.n, x.d, st, x.h, sec⟩
def noX : XR := ⟨0, 0, 0, 0, 0, 0, ⟨#[]⟩, ⟨#[]⟩⟩
def shaS (s : ByteArray) : ByteArray := strOfNums (shaF (strNums s))
section
variable (n m : Nat) (b : Nat → Nat → Int) (l : List XR)
def mayL (fr tt a amt d ck : Int) : Bool := decide (0 ≤ fr ∧ fr < n) && (decide (0 ≤ tt ∧ tt < n) && (decide (0 ≤ a ∧ a < m) && (amtB amt && (!(amt == 0) && (tickB d && tickB ck)))))
def lockE (fr tt a amt : Int) (h : ByteArray) (d ck : Int) : Int :=
 if mayL n m fr tt a amt d ck = true then (if h.size = 32 then (if fr = tt then 14 else if d ≤ ck then 11 else takeE n m b fr a amt) else 2) else 1
def lockB (fr tt a amt : Int) (h : ByteArray) (d ck : Int) : Nat → Nat → Int := if lockE n m b fr tt a amt h d ck = 0 then takeN n m b fr a amt else b
def lockL (fr tt a amt : Int) (h : ByteArray) (d ck : Int) : List XR := if lockE n m b fr tt a amt h d ck = 0 then l ++ [⟨fr, tt, a, amt, d, 0, h, ⟨#[]⟩⟩] else l
def lockI (fr tt a amt : Int) (h : ByteArray) (d ck : Int) : Int := if lockE n m b fr tt a amt h d ck = 0 then l.length else 0
def idB (id : Int) : Bool := decide (0 ≤ id ∧ id < l.length)
def atX (id : Int) : XR := l.getD id.toNat default
def claimE (who id : Int) (sec : ByteArray) (ck : Int) : Int :=
 if idB l id = true then (if who = (atX l id).t then (if (atX l id).s = 0 then (if tickB ck = true ∧ ck < (atX l id).d then (if sec.size = 32 then (if shaS sec = (atX l id).h then giveE n m b (atX l id).t (atX l id).a (atX l id).n else 10) else 2) else 11) else 9) else 14) else 8
def claimB (who id : Int) (sec : ByteArray) (ck : Int) : Nat → Nat → Int := if claimE n m b l who id sec ck = 0 then giveN n m b (atX l id).t (atX l id).a (atX l id).n else b
def claimL (who id : Int) (sec : ByteArray) (ck : Int) : List XR := if claimE n m b l who id sec ck = 0 then l.set id.toNat ((atX l id).close 1 sec) else l
def refundE (who id ck : Int) : Int :=
 if idB l id = true then (if who = (atX l id).f then (if (atX l id).s = 0 then (if tickB ck = true ∧ (atX l id).d ≤ ck then giveE n m b (atX l id).f (atX l id).a (atX l id).n else 11) else 9) else 14) else 8
def refundB (who id ck : Int) : Nat → Nat → Int := if refundE n m b l who id ck = 0 then giveN n m b (atX l id).f (atX l id).a (atX l id).n else b
def refundL (who id ck : Int) : List XR := if refundE n m b l who id ck = 0 then l.set id.toNat ((atX l id).close 2 ⟨#[]⟩) else l
end
def openX (l : List XR) : Nat := (l.filter (fun x => x.s == 0)).length
def lockedX (l : List XR) (j : Int) : Int := ((l.filter (fun x => x.s == 0 && x.a == j)).map XR.n).sum
structure BK (w : World) (Sp : Nat → Prop) (B tb q n m : Nat) (b : Nat → Nat → Int) (l : List XR) (v : Value) : Prop where
 box : w.heap[B]? = some (.cells #[.pointer (some ⟨tb, 0, none⟩), .pointer (some ⟨q, 0, none⟩), v] 136 (0, 0))
 row : w.ownsRow 0 57 8 v l.length (l.flatMap XR.list)
 pu : PAt 133 w q Sp n m b
 nB : ¬ Sp B
 nv : ∀ g, v.ownBlock = some g → ¬ Sp g
def fpK (Sp : Nat → Prop) (B : Nat) (v : Value) (k : Nat) : Prop := k = B ∨ v.ownBlock = some k ∨ Sp k
def BPost (w : World) (Sp : Nat → Prop) (B tb q n m : Nat) (v : Value) (b : Nat → Nat → Int) (l : List XR) (w' : World) : Prop :=
 ∃ v', BK w' Sp B tb q n m b l v' ∧ Keeps (fpK Sp B v) w w' ∧ ∀ g, v'.ownBlock = some g → v.ownBlock = some g ∨ w.heap.size ≤ g
section
variable {w w' : World} {Sp : Nat → Prop} {B tb q n m : Nat} {b b' : Nat → Nat → Int} {l l' : List XR} {v : Value}
def TPost (w : World) (Sp : Nat → Prop) (B tb q n m : Nat) (v : Value) (b : Nat → Nat → Int) (l : List XR) (w' : World) : Prop :=
 TabOk w' tb ∧ ∃ v', BK w' Sp B tb q n m b l v' ∧ Keeps (fun i => fpK Sp B v i ∨ i = tb) w w' ∧ ∀ g, v'.ownBlock = some g → v.ownBlock = some g ∨ w.heap.size ≤ g
theorem strEq (a b : ByteArray) : (a.toList == b.toList) = decide (a = b) := by
 rw [ByteArray.toList_eq, ByteArray.toList_eq, Bool.eq_iff_iff, beq_iff_eq, decide_eq_true_eq]
 constructor
 · intro h
   cases a; cases b
   simp only at h
   congr 1
   exact Array.toList_inj.1 h
 · intro h; rw [h]
theorem BK.vB (h : BK w Sp B tb q n m b l v) : ∀ g, v.ownBlock = some g → g ≠ B := fun g hg => by
 obtain ⟨cur, h1⟩ := row_ty h.row hg
 exact TyAt.ne ⟨_, _, h.box⟩ h1 (by decide)
theorem BK.lt (h : BK w Sp B tb q n m b l v) : ∀ k, fpK Sp B v k → k < w.heap.size := by
 rintro k (rfl | hk | hk)
 · exact blk_lt h.box
 · exact (h.row.lt k hk).2
 · obtain ⟨_, _, _, _, _, _, h3⟩ := h.pu; exact h3 k hk
theorem BK.keep {S : Nat → Prop} (h : BK w Sp B tb q n m b l v) (hk : Keeps S w w') (hs : ∀ k, fpK Sp B v k → ¬ S k) : BK w' Sp B tb q n m b l v :=
 ⟨(hk.block B (blk_lt h.box) (hs B (Or.inl rfl))).trans h.box, ownsRow_same h.row (fun g hg => hk.block g (h.row.lt g hg).2 (hs g (Or.inr (Or.inl hg)))), h.pu.keep hk (fun k hk => hs k (Or.inr (Or.inr hk))), h.nB, h.nv⟩
theorem BK.below (h : BK w Sp B tb q n m b l v) (hb : Below w.heap.size w w') : BK w' Sp B tb q n m b l v := h.keep (Keeps.of_below (S := fun _ => False) hb) (fun _ _ f => f)
theorem BK.cells (h : BK w Sp B tb q n m b l v) : w.cell? ⟨B, 0, none⟩ = some (.pointer (some ⟨tb, 0, none⟩)) ∧ w.cell? ⟨B, 1, none⟩ = some (.pointer (some ⟨q, 0, none⟩)) ∧ w.cell? ⟨B, 2, none⟩ = some v ∧ w.frozen? ⟨B, 2, none⟩ = false := ⟨blk_cell h.box 0, blk_cell h.box 1, blk_cell h.box 2, blk_frozen h.box 2⟩
theorem BK.shape (h : BK w Sp B tb q n m b l v) : ∃ ao c, v = .slice ao l.length c ∧ l.length ≤ c ∧ c ≤ maxLen := own_shape h.row
theorem BPost.refl (h : BK w Sp B tb q n m b l v) (hb : Below w.heap.size w w') : BPost w Sp B tb q n m v b l w' := ⟨v, h.below hb, Keeps.of_below hb, fun g hg => Or.inl hg⟩
theorem BK.esc {ao : Option Addr} {c : Nat} (h : BK w Sp B tb q n m b l (.slice ao l.length c)) (i : Nat) (hi : i < l.length) : ∃ g, ao = some ⟨g, 0, none⟩ ∧ (∀ j, j < 8 → w.cell? ⟨g, i * 8 + j, none⟩ = l[i].cells[j]?) ∧ ∀ j, w.frozen? ⟨g, j, none⟩ = false := by
 obtain ⟨g, rfl, hc⟩ := own_cell h.row (by omega)
 obtain ⟨cur, h1⟩ := row_ty h.row rfl
 refine ⟨g, rfl, fun j hj => ?_, fun j => blk_frozen h1 j⟩
 have hf := flat_get XR.list 8 (fun _ => rfl) l i hi j hj
 have hx : (l[i].list)[j]? = l[i].cells[j]? := Array.getElem?_toList
 rw [hx] at hf
 obtain ⟨u, hu⟩ : ∃ u, l[i].cells[j]? = some u := ⟨_, Array.getElem?_eq_getElem (show j < l[i].cells.size from hj)⟩
 rw [hu] at hf ⊢
 exact hc _ u hf
end
theorem X_cells {w : World} {b : Nat} {x : XR} {T : TypeId} (h : w.heap[b]? = some (.cells x.cells T (0, 0))) : w.cell? ⟨b, 0, none⟩ = some (.int .i64 x.f) ∧ w.cell? ⟨b, 1, none⟩ = some (.int .i64 x.t) ∧ w.cell? ⟨b, 2, none⟩ = some (.int .i64 x.a) ∧ w.cell? ⟨b, 3, none⟩ = some (.int .i64 x.n) ∧ w.cell? ⟨b, 4, none⟩ = some (.int .i64 x.d) ∧ w.cell? ⟨b, 5, none⟩ = some (.int .i64 x.s) ∧ w.cell? ⟨b, 6, none⟩ = some (.string x.h) ∧ w.cell? ⟨b, 7, none⟩ = some (.string x.x) :=
 ⟨blk_cell h 0, blk_cell h 1, blk_cell h 2, blk_cell h 3, blk_cell h 4, blk_cell h 5, blk_cell h 6, blk_cell h 7⟩
section
variable {w : World} {Sp : Nat → Prop} {B tb q n m : Nat} {b : Nat → Nat → Int} {l : List XR} {v : Value}
set_option maxHeartbeats 1000000 in
theorem book_new (tb q n m : Nat) (b : Nat → Nat → Int) (Sp : Nat → Prop) (w : World) (h : PAt 133 w q Sp n m b) :
 Calls Tryz.prog 30 #[.pointer (some ⟨tb, 0, none⟩), .pointer (some ⟨q, 0, none⟩)] w fun e w' => e = .returned (.pointer (some ⟨w.heap.size, 0, none⟩)) ∧ BK w' Sp w.heap.size tb q n m b [] (.slice none 0 0) ∧ Below w.heap.size w w' := by
 have H := Lib.hid h
 clear h
 go_enter Tryz.func30, Tryz.ntmps30
 go_wp2
 go_ret
 have hb : Below w.heap.size w (w.alloc (.cells #[.pointer (some ⟨tb, 0, none⟩), .pointer (some ⟨q, 0, none⟩), .slice none 0 0] 136)) := (Below.refl _ _).alloc (Nat.le_refl _) _
 refine ⟨rfl, ⟨heap_alloc_new _ _, World.ownsRow_nil _ _ _ _, H.out.below hb, ?_, fun g hg => by cases hg⟩, hb⟩
 intro hs
 obtain ⟨_, _, _, _, _, _, h3⟩ := H.out
 have := h3 _ hs
 omega
set_option maxHeartbeats 1000000 in
theorem book_idB (h : BK w Sp B tb q n m b l v) (id : Int) :
 Calls Tryz.prog 66 #[.pointer (some ⟨B, 0, none⟩), .int .i64 id] w fun e w' => e = .returned (.bool (idB l id)) ∧ w = w' := by
 obtain ⟨ao, c, rfl, _, _⟩ := h.shape
 obtain ⟨_, _, c2, _⟩ := h.cells
 obtain ⟨k, hk⟩ : ∃ k, k = l.length := ⟨_, rfl⟩
 rw [← hk] at c2
 have HK := Lib.hid hk
 clear h hk
 by_cases h0 : 0 ≤ id
 · by_cases h1 : id < (k : Int)
   · have HR := Lib.hid (show idB l id = true by unfold idB; rw [← HK.out]; exact decide_eq_true ⟨h0, h1⟩)
     go_enter Tryz.func66, Tryz.ntmps66
     go_wp2
     go_ret
     exact ⟨ret_bool HR.out.symm, rfl⟩
   · have HR := Lib.hid (show idB l id = false by unfold idB; rw [← HK.out]; exact decide_eq_false (fun h => h1 h.2))
     go_enter Tryz.func66, Tryz.ntmps66
     go_wp2
     go_ret
     exact ⟨ret_bool HR.out.symm, rfl⟩
 · have HR := Lib.hid (show idB l id = false by unfold idB; exact decide_eq_false (fun h => h0 h.1))
   go_enter Tryz.func66, Tryz.ntmps66
   go_wp2
   go_ret
   exact ⟨ret_bool HR.out.symm, rfl⟩
set_option maxHeartbeats 1000000 in
theorem book_there (h : BK w Sp B tb q n m b l v) (p : Int) :
 Calls Tryz.prog 99 #[.pointer (some ⟨B, 0, none⟩), .int .i64 p] w fun e w' => e = .returned (.bool (decide (0 ≤ p ∧ p < (n : Int)))) ∧ w = w' := by
 obtain ⟨_, c1, _, _⟩ := h.cells
 have HP := Lib.hid (pur_parties q n m Sp b w h.pu)
 clear h
 by_cases h0 : 0 ≤ p
 · by_cases h1 : p < (n : Int)
   · have HR := Lib.hid (decide_eq_true (show 0 ≤ p ∧ p < (n : Int) from ⟨h0, h1⟩))
     go_enter Tryz.func99, Tryz.ntmps99
     go_wp2_with fail
     refine HP.out.mono ?_
     rintro e w1 ⟨rfl, rfl⟩
     go_wp2
     go_ret
     exact ⟨ret_bool (by first | exact HR.out.symm | (simp; omega)), rfl⟩
   · have HR := Lib.hid (decide_eq_false (show ¬ (0 ≤ p ∧ p < (n : Int)) from fun h => h1 h.2))
     go_enter Tryz.func99, Tryz.ntmps99
     go_wp2_with fail
     refine HP.out.mono ?_
     rintro e w1 ⟨rfl, rfl⟩
     go_wp2
     go_ret
     exact ⟨ret_bool (by first | exact HR.out.symm | (simp; omega)), rfl⟩
 · have HR := Lib.hid (decide_eq_false (show ¬ (0 ≤ p ∧ p < (n : Int)) from fun h => h0 h.1))
   go_enter Tryz.func99, Tryz.ntmps99
   go_wp2
   go_ret
   exact ⟨ret_bool (by first | exact HR.out.symm | (simp; omega)), rfl⟩
set_option maxHeartbeats 1000000 in
theorem book_purse (h : BK w Sp B tb q n m b l v) :
 Calls Tryz.prog 58 #[.pointer (some ⟨B, 0, none⟩)] w fun e w' => e = .returned (.pointer (some ⟨q, 0, none⟩)) ∧ w = w' := by
 obtain ⟨_, c1, _, _⟩ := h.cells
 clear h
 go_enter Tryz.func58, Tryz.ntmps58
 go_wp2
 go_ret
 exact ⟨rfl, rfl⟩
end
end Go.Proofs.YtkaciaehlibidaaGreat
