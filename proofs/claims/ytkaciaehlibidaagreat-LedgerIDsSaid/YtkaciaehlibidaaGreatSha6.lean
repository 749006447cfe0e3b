/- Contract of sha.mix. -/
import Derived.Test.YtkaciaehlibidaaGreatLgB
import Derived.Deep.RegionHeld3
namespace Go.Proofs.YtkaciaehlibidaaGreat
open Go.RowKit
set_option linter.unusedVariables false
set_option linter.unusedSimpArgs false

set_option maxRecDepth 100000 in
set_option maxHeartbeats 4000000 in
theorem mix_any (tb : Nat) (hb ho : Nat) (TH : TypeId) (bo : Option Addr) (bs : List Int) (cap : Nat) (hs : List Int) (w : World) (ht : TabOk w tb) (h8 : hs.length = 8) (hne : hb ≠ tb) (c0 : Array Value) (hh : ArrF w hb TH 8 ho (fun j => hs.getD j 0) c0) (hhi : ∀ j, InU (hs.getD j 0)) (hn : bs.length = 64) (hbs : IntsAt .u8 w bo bs) (hB : ∀ z ∈ bs, 0 ≤ z ∧ z ≤ 255) (hcap : 64 ≤ cap) :
    Calls Tryz.prog 129 #[.pointer (some ⟨tb, 0, none⟩), .pointer (some ⟨hb, ho, none⟩), .slice bo 64 cap] w fun e w' => e = .returned (.tuple #[]) ∧ TabOk w' tb ∧ ArrF w' hb TH 8 ho (fun j => (mixF hs bs).getD j 0) c0 ∧ Keeps (fun i => i = tb ∨ i = hb) w w' := by
  have HTAB := Lib.hid ht
  have HHI := Lib.hid hhi
  have H8 := Lib.hid h8
  have HNE := Lib.hid hne
  have HH := Lib.hid hh
  have HBS := Lib.hid hbs
  have HN := Lib.hid hn
  have HBY := Lib.hid hB
  obtain ⟨b, off, rfl, hc⟩ : ∃ b off, bo = some ⟨b, off, none⟩ ∧ ∀ i, i < 64 → w.cell? ⟨b, off + i, none⟩ = some (.int .u8 (bs.getD i 0)) := by
    rcases hbs with h | ⟨b, off, h1, h2⟩
    · rw [h] at hn; simp at hn
    · exact ⟨b, off, h1, fun i hi => h2 i (by omega)⟩
  obtain ⟨w1, hw1⟩ : ∃ w1, w1 = w.alloc (.cells za 98) := ⟨_, rfl⟩
  have HB1 : Hid (Below w.heap.size w w1) := Lib.hid (by rw [hw1]; exact (Below.refl _ _).alloc (Nat.le_refl _) _)
  have HA1 : Hid (ArrAt w1 w.heap.size 98 64 0 (fun j => (wPre bs 0).getD j 0)) := Lib.hid (by
    rw [hw1]
    exact ⟨_, heap_alloc_new w _, by rw [za_size]; omega, fun j hj => by rw [za_at j hj]; simp [wPre]⟩)
  have HC := Lib.hid (fun wr (hk : Keeps (fun i => i = w.heap.size) w1 wr) i (hi : i < 64) => show wr.cell? ⟨b, off + i, none⟩ = some (.int .u8 (bs.getD i 0)) by
    have h1 := hc i hi
    have h2 := World.block_lt_of_cell? w _ h1
    have h2 : b < w.heap.size := h2
    have e1 : w1.heap[b]? = w.heap[b]? := HB1.out.block b h2
    have e2 : wr.heap[b]? = w1.heap[b]? := hk.block b (Nat.lt_of_lt_of_le h2 HB1.out.size) (by omega)
    unfold World.cell? at h1 ⊢
    rw [e2, e1]; exact h1)
  unfold za at hw1
  have HW1 := Lib.hid hw1
  obtain ⟨MXF, hMXF⟩ : ∃ m : Nat → Int, m = fun j => (mixF hs bs).getD j 0 := ⟨_, rfl⟩
  have HMF := Lib.hid hMXF
  rw [← hMXF]
  clear ht hh hbs hn hB hc hw1 hhi h8 hne hMXF
  go_enter Tryz.func129, Tryz.ntmps129
  go_upto_block 0 with fail
  rw [← HW1.out]
  go_cut [] (fun wx => ArrAt wx w.heap.size 98 64 0 (fun j => (wPre bs 64).getD j 0) ∧ Keeps (fun i => i = w.heap.size) w1 wx)
  case first =>
    go_wp2_with fail
    go_loopw [20] (fun i wr => ∃ k : Nat, k ≤ 64 ∧ i = .int .i64 k ∧ ArrAt wr w.heap.size 98 64 0 (fun j => (wPre bs k).getD j 0) ∧ Keeps (fun i => i = w.heap.size) w1 wr) (fun i _ => 64 - (intOf i).toNat)
    case atStart => exact ⟨0, Nat.zero_le _, rfl, HA1.out, Keeps.refl _ _⟩
    case round =>
      obtain ⟨k, hk, rfl, ha, hkp⟩ := hrel
      have HA := Lib.hid ha
      have HKP := Lib.hid hkp
      clear ha hkp
      by_cases hlt : k < 64
      · have j0 : (0 : Int) ≤ (k : Int) := by omega
        have j1 : (k : Int) < 64 := by omega
        by_cases h16 : k < 16
        · have j2 : (k : Int) < 16 := by omega
          have HNX : Hid (wNext bs (wPre bs k) = be4 ((bs.drop (4 * k)).take 4)) := Lib.hid (by
            unfold wNext m16
            rw [wPre_len, if_pos h16])
          have HWN := Lib.hid (wPre_next bs k)
          go_wp2_with fail
          go_loopw [33] (fun j wi => ∃ q : Nat, q ≤ 4 ∧ j = .int .i64 q ∧ ArrAt wi w.heap.size 98 64 0 (fun x => if x = k then be4 ((bs.drop (4 * k)).take q) else (wPre bs k).getD x 0) ∧ Keeps (fun i => i = w.heap.size) w1 wi) (fun j _ => 4 - (intOf j).toNat)
          case atStart =>
            refine ⟨0, Nat.zero_le _, rfl, HA.out.to (fun x hx => ?_), HKP.out⟩
            by_cases e : x = k
            · subst e
              rw [if_pos rfl]
              have hl := wPre_len bs x
              simp [List.getD, List.getElem?_eq_none (by omega : (wPre bs x).length ≤ x), be4]
            · rw [if_neg e]
          case round =>
            obtain ⟨q, hq, rfl, hai, hki⟩ := hrel
            have HAI := Lib.hid hai
            have HKI := Lib.hid hki
            clear hai hki
            by_cases hq4 : q < 4
            · have i0 : (0 : Int) ≤ (q : Int) := by omega
              have i1 : (q : Int) < 4 := by omega
              have cb := HC.out wr HKI.out (4 * k + q) (by omega)
              rw [← Nat.add_assoc] at cb
              obtain ⟨cw, fw⟩ := HAI.out.cell k hlt
              rw [if_pos rfl] at cw
              simp only [Nat.zero_add] at cw fw
              have HZ := Lib.hid (HBY.out (bs.getD (4 * k + q) 0) (by
                have hl : 4 * k + q < bs.length := by rw [HN.out]; omega
                simp only [List.getD, List.getElem?_eq_getElem hl, Option.getD_some]
                exact List.getElem_mem hl))
              have HSN : Hid ((bs.drop (4 * k)).take (q + 1) = (bs.drop (4 * k)).take q ++ [bs.getD (4 * k + q) 0]) := Lib.hid (by
                have hl : 4 * k + q < bs.length := by rw [HN.out]; omega
                have hl2 : q < (bs.drop (4 * k)).length := by simp; omega
                rw [List.take_succ_eq_append_getElem hl2]
                simp [List.getD, List.getElem?_eq_getElem hl])
              have hz := HZ.out
              generalize bs.getD (4 * k + q) 0 = z at *
              have HT2 := Lib.hid ((HAI.out.set k hlt (bits .or .u32 (be4 ((bs.drop (4 * k)).take q) * 256 % 4294967296) z)).to (f' := fun x => if x = k then be4 ((bs.drop (4 * k)).take (q + 1)) else (wPre bs k).getD x 0) (fun x hx => by
                by_cases e : x = k
                · subst e; simp only [if_true]; rw [HSN.out, be4_snoc]
                · simp only [if_neg e]))
              have HK2 := Lib.hid (HKI.out.trans ((Keeps.refl (fun i => i = w.heap.size) wr).setCell (p := ⟨w.heap.size, 0 + k, none⟩) (Or.inl rfl) (.int .u32 (bits .or .u32 (be4 ((bs.drop (4 * k)).take q) * 256 % 4294967296) z))) (fun i hi => Or.inl hi))
              simp only [Nat.zero_add] at HT2 HK2
              go_wp2_with fail
              go_roundw
              case rel => exact ⟨q + 1, by omega, by go_num, HT2.out, HK2.out⟩
              case measure => simp [intOf]; omega
            · obtain rfl : q = 4 := by omega
              have HT2 := Lib.hid (HAI.out.to (f' := fun j => (wPre bs (k + 1)).getD j 0) (fun x hx => by
                rw [HWN.out x, HNX.out]))
              go_wp2
              go_roundw
              case rel => exact ⟨k + 1, by omega, by go_num, HT2.out, HKI.out⟩
              case measure => simp [intOf]; omega
        · have j2 : ¬ (k : Int) < 16 := by omega
          obtain ⟨q, rfl⟩ : ∃ q, k = q + 16 := ⟨k - 16, by omega⟩
          obtain ⟨c1, _⟩ := HA.out.cell (q + 1) (by omega)
          obtain ⟨c14, _⟩ := HA.out.cell (q + 14) (by omega)
          obtain ⟨c0, _⟩ := HA.out.cell q (by omega)
          obtain ⟨c9, _⟩ := HA.out.cell (q + 9) (by omega)
          obtain ⟨cw, fw⟩ := HA.out.cell (q + 16) hlt
          simp only [Nat.zero_add] at c1 c14 c0 c9 cw fw
          have v1 := wPre_in bs (q + 16) (q + 1)
          have v14 := wPre_in bs (q + 16) (q + 14)
          have HNX : Hid (wNext bs (wPre bs (q + 16)) = ((((wPre bs (q + 16)).getD q 0 + sg0 ((wPre bs (q + 16)).getD (q + 1) 0)) % 4294967296 + (wPre bs (q + 16)).getD (q + 9) 0) % 4294967296 + sg1 ((wPre bs (q + 16)).getD (q + 14) 0)) % 4294967296) := Lib.hid (by
            unfold wNext wSched
            rw [wPre_len, if_neg (by omega), show q + 16 - 16 = q by omega, show q + 16 - 15 = q + 1 by omega, show q + 16 - 7 = q + 9 by omega, show q + 16 - 2 = q + 14 by omega])
          have HWN := Lib.hid (wPre_next bs (q + 16))
          generalize (wPre bs (q + 16)).getD (q + 1) 0 = x1 at *
          generalize (wPre bs (q + 16)).getD (q + 14) 0 = x14 at *
          generalize (wPre bs (q + 16)).getD q 0 = x0 at *
          generalize (wPre bs (q + 16)).getD (q + 9) 0 = x9 at *
          have HV1 := Lib.hid v1
          have HV14 := Lib.hid v14
          clear v1 v14 j0 j1 j2
          have j0 : (0 : Int) ≤ (q : Int) := by omega
          have j1 : (q : Int) < 48 := by omega
          clear h16
          have k1 : (q : Int) + 16 < 64 := by omega
          have k2 : ¬ (q : Int) + 16 < 16 := by omega
          go_upto_region 10 with fail
          go_quiet (fail)
          go_wp2_with fail
          have HA5 := Lib.hid (HA.out.same (w' := wr.drewN nq) rfl)
          have HK5 := Lib.hid (HKP.out.trans ((Keeps.refl (fun i => i = w.heap.size) wr).drewN nq) (fun i hi => Or.inl hi))
          have d0 : (wr.drewN nq).cell? ⟨w.heap.size, q, none⟩ = some (.int .u32 x0) := c0
          have d9 : (wr.drewN nq).cell? ⟨w.heap.size, q + 9, none⟩ = some (.int .u32 x9) := c9
          have dw : (wr.drewN nq).cell? ⟨w.heap.size, q + 16, none⟩ = some (.int .u32 ((wPre bs (q + 16)).getD (q + 16) 0)) := cw
          have dwf : (wr.drewN nq).frozen? ⟨w.heap.size, q + 16, none⟩ = false := fw
          generalize wr.drewN nq = w5 at *
          clear c0 c1 c9 c14 cw fw HA HKP
          refine (rotI_any x1 7 (-7) HV1.out (by omega) (by omega) (by decide) w5).mono ?_
          rintro e w6 ⟨rfl, rfl⟩
          go_wp2_with fail
          refine (rotI_any x1 18 (-18) HV1.out (by omega) (by omega) (by decide) w5).mono ?_
          rintro e w6 ⟨rfl, rfl⟩
          go_wp2_with fail
          refine (rotI_any x14 17 (-17) HV14.out (by omega) (by omega) (by decide) w5).mono ?_
          rintro e w6 ⟨rfl, rfl⟩
          go_wp2_with fail
          refine (rotI_any x14 19 (-19) HV14.out (by omega) (by omega) (by decide) w5).mono ?_
          rintro e w6 ⟨rfl, rfl⟩
          go_wp2_with fail
          have j2 : (q : Int) < 64 := by omega
          have hwA := (HA5.out.lt)
          have hwq : IntKind.i64.wrap (q : Int) = q := by rw [IntKind.wrap_i64]; omega
          have hwq9 : IntKind.i64.wrap ((q : Int) + 9) = (q : Int) + 9 := by rw [IntKind.wrap_i64]; omega
          have hwq7 : IntKind.i64.wrap ((q : Int) + 16 - 7) = (q : Int) + 9 := by rw [IntKind.wrap_i64]; omega
          have hwq16 : IntKind.i64.wrap ((q : Int) + 16) = (q : Int) + 16 := by rw [IntKind.wrap_i64]; omega
          have i9 : (0 : Int) ≤ (q : Int) + 9 := by omega
          have i9b : (q : Int) + 9 < 64 := by omega
          have i16 : (0 : Int) ≤ (q : Int) + 16 := by omega
          have i16b : (q : Int) + 16 < 64 := by omega
          have t0 : (q : Int).toNat = q := by omega
          have t9 : ((q : Int) + 9).toNat = q + 9 := by omega
          have t16 : ((q : Int) + 16).toNat = q + 16 := by omega
          refine wp_region_held_drew (S := fun w' => w'.cell? ⟨w.heap.size, q, none⟩ = some (.int .u32 x0) ∧ w'.cell? ⟨w.heap.size, q + 9, none⟩ = some (.int .u32 x9)) (by kernel_rfl) ?_ (fun hHeld => ?_)
          · exact ⟨d0, d9⟩
          refine take_at (i := 0) (d := 71) (v := ?_) rfl rfl (by kernel_rfl) (by kernel_rfl) (by kernel_rfl) (fun _ _ _ h => h) (Or.inl ⟨by rfl, by intro w' hSw; (try dsimp only at hSw); go_simp; try with_reducible rfl⟩) (by assumption) ?_
          simp only [List.setIfInBounds_toArray, List.set_cons_zero, List.set_cons_succ]
          refine take_at (i := 1) (d := 72) (v := ?_) rfl rfl (by kernel_rfl) (by kernel_rfl) (by kernel_rfl) (fun _ _ _ h => h) (Or.inl ⟨by rfl, by intro w' hSw; (try dsimp only at hSw); go_simp; try with_reducible rfl⟩) (by assumption) ?_
          simp only [List.setIfInBounds_toArray, List.set_cons_zero, List.set_cons_succ]
          refine take_at (i := 2) (d := 73) (v := ?_) rfl rfl (by kernel_rfl) (by kernel_rfl) (by kernel_rfl) (fun _ _ _ h => h) (Or.inl ⟨by rfl, by intro w' hSw; (try dsimp only at hSw); go_simp; try with_reducible rfl⟩) (by assumption) ?_
          simp only [List.setIfInBounds_toArray, List.set_cons_zero, List.set_cons_succ]
          refine take_at (i := 3) (d := 74) (v := ?_) rfl rfl (by kernel_rfl) (by kernel_rfl) (by kernel_rfl) (fun _ _ _ h => h) (Or.inl ⟨by rfl, by intro w' hSw; (try dsimp only at hSw); go_simp; try with_reducible rfl⟩) (by assumption) ?_
          simp only [List.setIfInBounds_toArray, List.set_cons_zero, List.set_cons_succ]
          refine take_at (i := 4) (d := 75) (v := ?_) rfl rfl (by kernel_rfl) (by kernel_rfl) (by kernel_rfl) (fun _ _ _ h => h) (Or.inl ⟨by rfl, by intro w' hSw; (try dsimp only at hSw); go_simp; try with_reducible rfl⟩) (by assumption) ?_
          simp only [List.setIfInBounds_toArray, List.set_cons_zero, List.set_cons_succ]
          refine take_at (i := 5) (d := 76) (v := ?_) rfl rfl (by kernel_rfl) (by kernel_rfl) (by kernel_rfl) (fun _ _ _ h => h) (Or.inl ⟨by rfl, by intro w' hSw; (try dsimp only at hSw); go_simp; try with_reducible rfl⟩) (by assumption) ?_
          simp only [List.setIfInBounds_toArray, List.set_cons_zero, List.set_cons_succ]
          refine take_at (i := 6) (d := 77) (v := ?_) rfl rfl (by kernel_rfl) (by kernel_rfl) (by kernel_rfl) (fun _ _ _ h => h) (Or.inl ⟨by rfl, by intro w' hSw; (try dsimp only at hSw); go_simp; try with_reducible rfl⟩) (by assumption) ?_
          simp only [List.setIfInBounds_toArray, List.set_cons_zero, List.set_cons_succ]
          refine take_at (i := 7) (d := 78) (v := ?_) rfl rfl (by kernel_rfl) (by kernel_rfl) (by kernel_rfl) (fun _ _ _ h => h) (Or.inl ⟨by rfl, by intro w' hSw; (try dsimp only at hSw); go_simp; try with_reducible rfl⟩) (by assumption) ?_
          simp only [List.setIfInBounds_toArray, List.set_cons_zero, List.set_cons_succ]
          refine take_at (i := 8) (d := 79) (v := ?_) rfl rfl (by kernel_rfl) (by kernel_rfl) (by kernel_rfl) (fun _ _ _ h => h) (Or.inl ⟨by rfl, by intro w' hSw; (try dsimp only at hSw); go_simp; try with_reducible rfl⟩) (by assumption) ?_
          simp only [List.setIfInBounds_toArray, List.set_cons_zero, List.set_cons_succ]
          refine take_at (i := 9) (d := 80) (v := ?_) rfl rfl (by kernel_rfl) (by kernel_rfl) (by kernel_rfl) (fun _ _ _ h => h) (Or.inl ⟨by rfl, by intro w' hSw; (try dsimp only at hSw); go_simp; try with_reducible rfl⟩) (by assumption) ?_
          simp only [List.setIfInBounds_toArray, List.set_cons_zero, List.set_cons_succ]
          refine take_at (i := 10) (d := 81) (v := ?_) rfl rfl (by kernel_rfl) (by kernel_rfl) (by kernel_rfl) (fun _ _ _ h => h) (Or.inl ⟨by rfl, by intro w' hSw; (try dsimp only at hSw); go_simp; try with_reducible rfl⟩) (by assumption) ?_
          simp only [List.setIfInBounds_toArray, List.set_cons_zero, List.set_cons_succ]
          refine take_at (i := 11) (d := 82) (v := ?_) rfl rfl (by kernel_rfl) (by kernel_rfl) (by kernel_rfl) (fun _ _ _ h => h) (Or.inl ⟨by rfl, by intro w' hSw; (try dsimp only at hSw); go_simp; try with_reducible rfl⟩) (by assumption) ?_
          simp only [List.setIfInBounds_toArray, List.set_cons_zero, List.set_cons_succ]
          refine take_at (i := 12) (d := 83) (v := ?_) rfl rfl (by kernel_rfl) (by kernel_rfl) (by kernel_rfl) (fun _ _ _ h => h) (Or.inl ⟨by rfl, by intro w' hSw; (try dsimp only at hSw); go_simp; try with_reducible rfl⟩) (by assumption) ?_
          simp only [List.setIfInBounds_toArray, List.set_cons_zero, List.set_cons_succ]
          refine take_at (i := 13) (d := 84) (v := ?_) rfl rfl (by kernel_rfl) (by kernel_rfl) (by kernel_rfl) (fun _ _ _ h => h) (Or.inl ⟨by rfl, by intro w' hSw; (try dsimp only at hSw); go_simp; try with_reducible rfl⟩) (by assumption) ?_
          simp only [List.setIfInBounds_toArray, List.set_cons_zero, List.set_cons_succ]
          refine take_at (i := 14) (d := 85) (v := ?_) rfl rfl (by kernel_rfl) (by kernel_rfl) (by kernel_rfl) (fun _ _ _ h => h) (Or.inl ⟨by rfl, by intro w' hSw; (try dsimp only at hSw); go_simp; try with_reducible rfl⟩) (by assumption) ?_
          simp only [List.setIfInBounds_toArray, List.set_cons_zero, List.set_cons_succ]
          refine wpAnyH_ready (rs := [15]) (by kernel_rfl) (by simp) ?_
          refine AllReadyH.cons rfl (fun K hK => ?_) AllReadyH.nil
          go_simp
          go_wp2_with fail
          refine hK.out _ _ ?_ (fun hHeld => ?_)
          · exact ⟨(World.cell?_setCell_other _ ⟨w.heap.size, q + 16, none⟩ ⟨w.heap.size, q, none⟩ _ (by simp)).trans d0, (World.cell?_setCell_other _ ⟨w.heap.size, q + 16, none⟩ ⟨w.heap.size, q + 9, none⟩ _ (by simp)).trans d9⟩
          clear hK K
          try simp only [Act.put, List.getElem_toArray, List.getElem_cons_succ, List.getElem_cons_zero]
          try simp only [List.setIfInBounds_toArray, List.set_cons_zero, List.set_cons_succ]
          refine wpAnyH_done (by kernel_rfl) ?_ _
          go_wp2_with fail
          go_roundw
          case rel =>
            refine ⟨q + 16 + 1, by omega, by go_num, HA5.out.setD (q + 16) hlt _ (fun j hj => ?_), Keeps.setD HK5.out (q + 16) _⟩
            rw [HWN.out]
            split
            · rw [HNX.out]; unfold sg0 sg1; simp only [IntKind.wrap_u32]
            · rfl
          case measure => simp [intOf]; omega
      · obtain rfl : k = 64 := by omega
        go_wp2_with fail
        go_meet
        case rel => exact ⟨HA.out, HKP.out⟩
  case rest =>
    obtain ⟨ha, hkp⟩ := hcut
    obtain ⟨h0, h1, h2, h3, h4, h5, h6, h7, rfl⟩ : ∃ h0 h1 h2 h3 h4 h5 h6 h7, hs = [h0, h1, h2, h3, h4, h5, h6, h7] := by
      have := H8.out
      match hs, this with
      | [h0, h1, h2, h3, h4, h5, h6, h7], _ => exact ⟨h0, h1, h2, h3, h4, h5, h6, h7, rfl⟩
    have eb : wc.heap[hb]? = w.heap[hb]? := (hkp.block hb (Nat.lt_of_lt_of_le HH.out.lt HB1.out.size) (by have := HH.out.lt; omega)).trans (HB1.out.block hb HH.out.lt)
    have et : wc.heap[tb]? = w.heap[tb]? := (hkp.block tb (Nat.lt_of_lt_of_le HTAB.out.lt HB1.out.size) (by have := HTAB.out.lt; omega)).trans (HB1.out.block tb HTAB.out.lt)
    have HH2 := Lib.hid (HH.out.same eb)
    have HT2 := Lib.hid (HTAB.out.same et)
    have g0 := (HH2.out.cell 0 (by omega)).1
    have g1 := (HH2.out.cell 1 (by omega)).1
    have g2 := (HH2.out.cell 2 (by omega)).1
    have g3 := (HH2.out.cell 3 (by omega)).1
    have g4 := (HH2.out.cell 4 (by omega)).1
    have g5 := (HH2.out.cell 5 (by omega)).1
    have g6 := (HH2.out.cell 6 (by omega)).1
    have g7 := (HH2.out.cell 7 (by omega)).1
    simp only [List.getD_cons_zero, List.getD_cons_succ, Nat.add_zero] at g0 g1 g2 g3 g4 g5 g6 g7
    obtain ⟨wv, hwv⟩ : ∃ wv, wv = wc.alloc (.cells #[.int .u32 h0, .int .u32 h1, .int .u32 h2, .int .u32 h3, .int .u32 h4, .int .u32 h5, .int .u32 h6, .int .u32 h7] 99) := ⟨_, rfl⟩
    have HBV : Hid (Below wc.heap.size wc wv) := Lib.hid (by rw [hwv]; exact (Below.refl _ _).alloc (Nat.le_refl _) _)
    have HV : Hid (V8 wv wc.heap.size 99 h0 h1 h2 h3 h4 h5 h6 h7) := Lib.hid (by rw [hwv]; exact heap_alloc_new _ _)
    have HAV := Lib.hid (ha.below HBV.out)
    have HTV := Lib.hid (HT2.out.below HBV.out)
    have HHV := Lib.hid (HH2.out.below HBV.out)
    have HKV : Hid (Keeps (fun i => i = w.heap.size) w wv) := Lib.hid (((Keeps.of_below HB1.out).trans hkp (fun i hi => Or.inl hi)).trans (Keeps.of_below (S := fun _ => False) HBV.out) (fun _ h => h.elim))
    have HLT := Lib.hid (show w.heap.size < wc.heap.size from ha.lt)
    have HLV := Lib.hid (show wc.heap.size < wv.heap.size from blk_lt HV.out)
    have HWV := Lib.hid hwv
    have HIN := Lib.hid (fun k j => vRun_in (wPre bs 64) [h0, h1, h2, h3, h4, h5, h6, h7] HHI.out k j)
    have HLL := Lib.hid (fun k => vRun_len (wPre bs 64) [h0, h1, h2, h3, h4, h5, h6, h7] rfl k)
    clear hkp eb et hwv ha
    go_wp2_with fail
    rw [← HWV.out]
    generalize hV : wc.heap.size = V at *
    generalize hW : w.heap.size = W at *
    have HVe := Lib.hid hV
    have HWe := Lib.hid hW
    have HNE2 := Lib.hid (show tb ≠ V ∧ tb ≠ W ∧ W ≠ V by have h1 := HTAB.out.lt; have := HLT.out; exact ⟨by omega, by omega, by omega⟩)
    clear hV hW
    go_loopw [90] (fun i wr => ∃ k : Nat, k ≤ 64 ∧ i = .int .i64 k ∧ ∃ a0 a1 a2 a3 a4 a5 a6 a7, vRun (wPre bs 64) [h0, h1, h2, h3, h4, h5, h6, h7] k = [a0, a1, a2, a3, a4, a5, a6, a7] ∧ V8 wr V 99 a0 a1 a2 a3 a4 a5 a6 a7 ∧ TabOk wr tb ∧ Keeps (fun i => i = tb ∨ i = V) wv wr) (fun i _ => 64 - (intOf i).toNat)
    case atStart => exact ⟨0, Nat.zero_le _, rfl, h0, h1, h2, h3, h4, h5, h6, h7, rfl, HV.out, HTV.out, Keeps.refl _ _⟩
    case round =>
      obtain ⟨k, hk, rfl, a0, a1, a2, a3, a4, a5, a6, a7, hr, hv, ht, hkp⟩ := hrel
      have HV2 := Lib.hid hv
      have HT3 := Lib.hid ht
      have HK3 := Lib.hid hkp
      have HA3 := Lib.hid (HAV.out.same (hkp.block W (Nat.lt_trans HLT.out HLV.out) (by have := HNE2.out; omega)))
      have HR := Lib.hid hr
      clear hr hv ht hkp
      by_cases hlt : k < 64
      · have j0 : (0 : Int) ≤ (k : Int) := by omega
        have j1 : (k : Int) < 64 := by omega
        have HRN : Hid (vRun (wPre bs 64) [h0, h1, h2, h3, h4, h5, h6, h7] (k + 1) = [(oneF (kAt k) ((wPre bs 64).getD k 0) a4 a5 a6 a7 + twoF a0 a1 a2) % 4294967296, a0, a1, a2, (a3 + oneF (kAt k) ((wPre bs 64).getD k 0) a4 a5 a6 a7) % 4294967296, a4, a5, a6]) := Lib.hid (by
          show vStep (kAt k) ((wPre bs 64).getD k 0) (vRun (wPre bs 64) [h0, h1, h2, h3, h4, h5, h6, h7] k) = _
          rw [HR.out]; rfl)
        have HI0 : Hid (InU a0) := Lib.hid (by have := HIN.out k 0; rw [HR.out] at this; exact this)
        have HI4 : Hid (InU a4) := Lib.hid (by have := HIN.out k 4; rw [HR.out] at this; exact this)
        obtain ⟨cw, _⟩ := HA3.out.cell k hlt
        simp only [Nat.zero_add] at cw
        have HWD := Lib.hid (fun w' (ht' : TabOk w' tb) => (word_any tb k w' ht').mono (R' := fun e w'' => e = .returned (.int .u32 (kAt k)) ∧ TabPost tb w' w'') (by
          rintro e w'' ⟨rfl, h⟩
          refine ⟨ret_int ?_, h⟩
          unfold kB; rw [if_pos (by omega)]; rfl))
        generalize hwk : (wPre bs 64).getD k 0 = wk at *
        have HWK := Lib.hid hwk
        clear hwk
        generalize kAt k = kk at *
        obtain ⟨c0, _, _, _, c4, _, _, _⟩ := HV2.out.c
        go_wp2_with fail
        refine wp_region_held_drew (S := fun w' => w'.cell? ⟨V, 0, none⟩ = some (.int .u32 a0) ∧ w'.cell? ⟨V, 4, none⟩ = some (.int .u32 a4)) (by kernel_rfl) ?_ (fun hHeld => ?_)
        · exact ⟨c0, c4⟩
        refine take_at (i := 0) (d := 93) (v := ?_) rfl rfl (by kernel_rfl) (by kernel_rfl) (by kernel_rfl) (fun _ _ _ h => h) (Or.inl ⟨by rfl, by intro w' hSw; (try dsimp only at hSw); go_simp; try with_reducible rfl⟩) (by assumption) ?_
        simp only [List.setIfInBounds_toArray, List.set_cons_zero, List.set_cons_succ]
        refine take_at (i := 1) (d := 94) (v := ?_) rfl rfl (by kernel_rfl) (by kernel_rfl) (by kernel_rfl) (fun _ _ _ h => h) (Or.inl ⟨by rfl, by intro w' hSw; (try dsimp only at hSw); go_simp; try with_reducible rfl⟩) (by assumption) ?_
        simp only [List.setIfInBounds_toArray, List.set_cons_zero, List.set_cons_succ]
        refine take_at (i := 2) (d := 95) (v := ?_) rfl rfl (by kernel_rfl) (by kernel_rfl) (by kernel_rfl) (fun _ _ _ h => h) (Or.inl ⟨by rfl, by intro w' hSw; (try dsimp only at hSw); go_simp; try with_reducible rfl⟩) (by assumption) ?_
        simp only [List.setIfInBounds_toArray, List.set_cons_zero, List.set_cons_succ]
        refine take_at (i := 3) (d := 96) (v := ?_) rfl rfl (by kernel_rfl) (by kernel_rfl) (by kernel_rfl) (fun _ _ _ h => h) (Or.inl ⟨by rfl, by intro w' hSw; (try dsimp only at hSw); go_simp; try with_reducible rfl⟩) (by assumption) ?_
        simp only [List.setIfInBounds_toArray, List.set_cons_zero, List.set_cons_succ]
        refine take_at (i := 4) (d := 14) (v := ?_) rfl rfl (by kernel_rfl) (by kernel_rfl) (by kernel_rfl) (fun _ _ _ h => h) (Or.inl ⟨by rfl, by intro w' hSw; (try dsimp only at hSw); go_simp; try with_reducible rfl⟩) (by assumption) ?_
        simp only [List.setIfInBounds_toArray, List.set_cons_zero, List.set_cons_succ]
        refine take_at (i := 5) (d := 15) (v := ?_) rfl rfl (by kernel_rfl) (by kernel_rfl) (by kernel_rfl) (fun _ _ _ h => h) (Or.inl ⟨by rfl, by intro w' hSw; (try dsimp only at hSw); go_simp; try with_reducible rfl⟩) (by assumption) ?_
        simp only [List.setIfInBounds_toArray, List.set_cons_zero, List.set_cons_succ]
        refine wpAnyH_done (by kernel_rfl) ?_ _
        clear hHeld c0 c4
        have HV5 := Lib.hid (HV2.out.same (w' := wr.drew) rfl)
        have HT5 := Lib.hid (HT3.out.same (w' := wr.drew) rfl)
        have HA5 := Lib.hid (HA3.out.same (w' := wr.drew) rfl)
        have HK5 := Lib.hid (HK3.out.drew)
        clear HV2 HT3 HA3 HK3 cw
        generalize wr.drew = w5 at *
        have HSK : Hid (∀ w', Keeps (fun i => i = tb) w5 w' → TabOk w' tb → V8 w' V 99 a0 a1 a2 a3 a4 a5 a6 a7 ∧ (w'.cell? ⟨V, 5, none⟩ = some (.int .u32 a5) ∧ w'.cell? ⟨V, 6, none⟩ = some (.int .u32 a6) ∧ w'.cell? ⟨V, 7, none⟩ = some (.int .u32 a7) ∧ w'.cell? ⟨W, k, none⟩ = some (.int .u32 wk)) ∧ TabOk w' tb) := Lib.hid (by
          intro w' hk ht
          have h1 := HV5.out.same (hk.block V HV5.out.lt (fun e => HNE2.out.1 e.symm))
          have h2 := HA5.out.same (hk.block W HA5.out.lt (fun e => HNE2.out.2.1 e.symm))
          have h3 := (h2.cell k hlt).1
          rw [Nat.zero_add, HWK.out] at h3
          obtain ⟨_, _, _, _, _, q5, q6, q7⟩ := h1.c
          exact ⟨h1, ⟨q5, q6, q7, h3⟩, ht⟩)
        go_wp2_with fail
        refine (rotI_any a4 6 (-6) HI4.out (by omega) (by omega) (by decide) w5).mono ?_
        rintro e w6 ⟨rfl, rfl⟩
        go_wp2_with fail
        refine (rotI_any a4 11 (-11) HI4.out (by omega) (by omega) (by decide) w5).mono ?_
        rintro e w6 ⟨rfl, rfl⟩
        go_wp2_with fail
        refine (rotI_any a4 25 (-25) HI4.out (by omega) (by omega) (by decide) w5).mono ?_
        rintro e w6 ⟨rfl, rfl⟩
        go_wp2_with fail
        generalize hs1 : bits BinOp.xor .u32 (bits BinOp.xor .u32 (rotI a4 6) (rotI a4 11)) (rotI a4 25) = s1 at *
        have HS1 := Lib.hid hs1
        clear hs1
        refine wp_region_held_drew (S := fun w' => Keeps (fun i => i = tb) w5 w' ∧ (w'.cell? ⟨V, 5, none⟩ = some (.int .u32 a5) ∧ w'.cell? ⟨V, 6, none⟩ = some (.int .u32 a6) ∧ w'.cell? ⟨V, 7, none⟩ = some (.int .u32 a7) ∧ w'.cell? ⟨W, k, none⟩ = some (.int .u32 wk)) ∧ TabOk w' tb) (by kernel_rfl) ?_ (fun hHeld => ?_)
        · exact ⟨(Keeps.refl _ _).drew, (HSK.out w5.drew (Keeps.refl _ _).drew (HT5.out.same rfl)).2.1, HT5.out.same rfl⟩
        refine take_at (i := 0) (d := 105) (v := ?_) rfl rfl (by kernel_rfl) (by kernel_rfl) (by kernel_rfl) (fun _ _ _ h => h) (Or.inl ⟨by rfl, by intro w' hSw; (try dsimp only at hSw); go_simp; try with_reducible rfl⟩) (by assumption) ?_
        simp only [List.setIfInBounds_toArray, List.set_cons_zero, List.set_cons_succ]
        refine take_at (i := 1) (d := 106) (v := ?_) rfl rfl (by kernel_rfl) (by kernel_rfl) (by kernel_rfl) (fun _ _ _ h => h) (Or.inl ⟨by rfl, by intro w' hSw; (try dsimp only at hSw); go_simp; try with_reducible rfl⟩) (by assumption) ?_
        simp only [List.setIfInBounds_toArray, List.set_cons_zero, List.set_cons_succ]
        refine take_at (i := 2) (d := 107) (v := ?_) rfl rfl (by kernel_rfl) (by kernel_rfl) (by kernel_rfl) (fun _ _ _ h => h) (Or.inl ⟨by rfl, by intro w' hSw; (try dsimp only at hSw); go_simp; try with_reducible rfl⟩) (by assumption) ?_
        simp only [List.setIfInBounds_toArray, List.set_cons_zero, List.set_cons_succ]
        refine take_at (i := 3) (d := 108) (v := ?_) rfl rfl (by kernel_rfl) (by kernel_rfl) (by kernel_rfl) (fun _ _ _ h => h) (Or.inl ⟨by rfl, by intro w' hSw; (try dsimp only at hSw); go_simp; try with_reducible rfl⟩) (by assumption) ?_
        simp only [List.setIfInBounds_toArray, List.set_cons_zero, List.set_cons_succ]
        refine take_at (i := 4) (d := 109) (v := ?_) rfl rfl (by kernel_rfl) (by kernel_rfl) (by kernel_rfl) (fun _ _ _ h => h) (Or.inl ⟨by rfl, by intro w' hSw; (try dsimp only at hSw); go_simp; try with_reducible rfl⟩) (by assumption) ?_
        simp only [List.setIfInBounds_toArray, List.set_cons_zero, List.set_cons_succ]
        refine take_at (i := 5) (d := 110) (v := ?_) rfl rfl (by kernel_rfl) (by kernel_rfl) (by kernel_rfl) (fun _ _ _ h => h) (Or.inl ⟨by rfl, by intro w' hSw; (try dsimp only at hSw); go_simp; try with_reducible rfl⟩) (by assumption) ?_
        simp only [List.setIfInBounds_toArray, List.set_cons_zero, List.set_cons_succ]
        refine take_at (i := 6) (d := 111) (v := ?_) rfl rfl (by kernel_rfl) (by kernel_rfl) (by kernel_rfl) (fun _ _ _ h => h) (Or.inl ⟨by rfl, by intro w' hSw; (try dsimp only at hSw); go_simp; try with_reducible rfl⟩) (by assumption) ?_
        simp only [List.setIfInBounds_toArray, List.set_cons_zero, List.set_cons_succ]
        refine take_at (i := 7) (d := 112) (v := ?_) rfl rfl (by kernel_rfl) (by kernel_rfl) (by kernel_rfl) (fun _ _ _ h => h) (Or.inl ⟨by rfl, by intro w' hSw; (try dsimp only at hSw); go_simp; try with_reducible rfl⟩) (by assumption) ?_
        simp only [List.setIfInBounds_toArray, List.set_cons_zero, List.set_cons_succ]
        refine take_at (i := 8) (d := 113) (v := ?_) rfl rfl (by kernel_rfl) (by kernel_rfl) (by kernel_rfl) (fun _ _ _ h => h) (Or.inl ⟨by rfl, by intro w' hSw; (try dsimp only at hSw); go_simp; try with_reducible rfl⟩) (by assumption) ?_
        simp only [List.setIfInBounds_toArray, List.set_cons_zero, List.set_cons_succ]
        refine take_at (i := 9) (d := 114) (v := ?_) rfl rfl (by kernel_rfl) (by kernel_rfl) (by kernel_rfl) (fun _ _ _ h => h) (Or.inl ⟨by rfl, by intro w' hSw; (try dsimp only at hSw); go_simp; try with_reducible rfl⟩) (by assumption) ?_
        simp only [List.setIfInBounds_toArray, List.set_cons_zero, List.set_cons_succ]
        refine take_at (i := 10) (d := 115) (v := ?_) rfl rfl (by kernel_rfl) (by kernel_rfl) (by kernel_rfl) (fun _ _ _ h => h) (Or.inl ⟨by rfl, by intro w' hSw; (try dsimp only at hSw); go_simp; try with_reducible rfl⟩) (by assumption) ?_
        simp only [List.setIfInBounds_toArray, List.set_cons_zero, List.set_cons_succ]
        refine take_at (i := 11) (d := 116) (v := ?_) rfl rfl (by kernel_rfl) (by kernel_rfl) (by kernel_rfl) (fun _ _ _ h => h) (Or.inl ⟨by rfl, by intro w' hSw; (try dsimp only at hSw); go_simp; try with_reducible rfl⟩) (by assumption) ?_
        simp only [List.setIfInBounds_toArray, List.set_cons_zero, List.set_cons_succ]
        refine take_at (i := 12) (d := 117) (v := ?_) rfl rfl (by kernel_rfl) (by kernel_rfl) (by kernel_rfl) (fun _ _ _ h => h) (Or.inl ⟨by rfl, by intro w' hSw; (try dsimp only at hSw); go_simp; try with_reducible rfl⟩) (by assumption) ?_
        simp only [List.setIfInBounds_toArray, List.set_cons_zero, List.set_cons_succ]
        refine take_at (i := 13) (d := 118) (v := ?_) rfl rfl (by kernel_rfl) (by kernel_rfl) (by kernel_rfl) (fun _ _ _ h => h) (Or.inl ⟨by rfl, by intro w' hSw; (try dsimp only at hSw); go_simp; try with_reducible rfl⟩) (by assumption) ?_
        simp only [List.setIfInBounds_toArray, List.set_cons_zero, List.set_cons_succ]
        refine take_at (i := 14) (d := 119) (v := ?_) rfl rfl (by kernel_rfl) (by kernel_rfl) (by kernel_rfl) (fun _ _ _ h => h) (Or.inl ⟨by rfl, by intro w' hSw; (try dsimp only at hSw); go_simp; try with_reducible rfl⟩) (by assumption) ?_
        simp only [List.setIfInBounds_toArray, List.set_cons_zero, List.set_cons_succ]
        refine take_at (i := 15) (d := 120) (v := ?_) rfl rfl (by kernel_rfl) (by kernel_rfl) (by kernel_rfl) (fun _ _ _ h => h) (Or.inl ⟨by rfl, by intro w' hSw; (try dsimp only at hSw); go_simp; try with_reducible rfl⟩) (by assumption) ?_
        simp only [List.setIfInBounds_toArray, List.set_cons_zero, List.set_cons_succ]
        refine take_at (i := 16) (d := 121) (v := ?_) rfl rfl (by kernel_rfl) (by kernel_rfl) (by kernel_rfl) (fun _ _ _ h => h) (Or.inl ⟨by rfl, by intro w' hSw; (try dsimp only at hSw); go_simp; try with_reducible rfl⟩) (by assumption) ?_
        simp only [List.setIfInBounds_toArray, List.set_cons_zero, List.set_cons_succ]
        refine take_at (i := 19) (d := 124) (v := ?_) rfl rfl (by kernel_rfl) (by kernel_rfl) (by kernel_rfl) (fun _ _ _ h => h) (Or.inl ⟨by rfl, by intro w' hSw; (try dsimp only at hSw); go_simp; try with_reducible rfl⟩) (by assumption) ?_
        simp only [List.setIfInBounds_toArray, List.set_cons_zero, List.set_cons_succ]
        refine take_at (i := 20) (d := 125) (v := ?_) rfl rfl (by kernel_rfl) (by kernel_rfl) (by kernel_rfl) (fun _ _ _ h => h) (Or.inl ⟨by rfl, by intro w' hSw; (try dsimp only at hSw); go_simp; try with_reducible rfl⟩) (by assumption) ?_
        simp only [List.setIfInBounds_toArray, List.set_cons_zero, List.set_cons_succ]
        refine take_at (i := 21) (d := 126) (v := ?_) rfl rfl (by kernel_rfl) (by kernel_rfl) (by kernel_rfl) (fun _ _ _ h => h) (Or.inl ⟨by rfl, by intro w' hSw; (try dsimp only at hSw); go_simp; try with_reducible rfl⟩) (by assumption) ?_
        simp only [List.setIfInBounds_toArray, List.set_cons_zero, List.set_cons_succ]
        refine wpAnyH_ready (rs := [17]) (by kernel_rfl) (by simp) ?_
        refine AllReadyH.cons rfl (fun K hK => ?_) AllReadyH.nil
        go_simp
        go_at_call 137
        refine (HWD.out _ hHeld.2.2).mono ?_
        rintro e w7 ⟨rfl, ht7, hk7⟩
        have HTX := Lib.hid (show TabOk w7 tb from Or.inr ht7)
        have HKX := Lib.hid (hHeld.1.trans hk7 (fun i h => Or.inl h))
        clear ht7 hk7 hHeld
        dsimp only
        refine hK.out _ _ ?_ (fun hHeld => ?_)
        · exact ⟨HKX.out, (HSK.out _ HKX.out HTX.out).2.1, HTX.out⟩
        clear hK K
        try simp only [Act.put, List.getElem_toArray, List.getElem_cons_succ, List.getElem_cons_zero]
        try simp only [List.setIfInBounds_toArray, List.set_cons_zero, List.set_cons_succ]
        refine take_at (i := 18) (d := 123) (v := ?_) rfl rfl (by kernel_rfl) (by kernel_rfl) (by kernel_rfl) (fun _ _ _ h => h) (Or.inl ⟨by rfl, by intro w' hSw; (try dsimp only at hSw); go_simp; try with_reducible rfl⟩) (by assumption) ?_
        simp only [List.setIfInBounds_toArray, List.set_cons_zero, List.set_cons_succ]
        refine take_at (i := 22) (d := 127) (v := ?_) rfl rfl (by kernel_rfl) (by kernel_rfl) (by kernel_rfl) (fun _ _ _ h => h) (Or.inl ⟨by rfl, by intro w' hSw; (try dsimp only at hSw); go_simp; try with_reducible rfl⟩) (by assumption) ?_
        simp only [List.setIfInBounds_toArray, List.set_cons_zero, List.set_cons_succ]
        refine take_at (i := 23) (d := 17) (v := ?_) rfl rfl (by kernel_rfl) (by kernel_rfl) (by kernel_rfl) (fun _ _ _ h => h) (Or.inl ⟨by rfl, by intro w' hSw; (try dsimp only at hSw); go_simp; try with_reducible rfl⟩) (by assumption) ?_
        simp only [List.setIfInBounds_toArray, List.set_cons_zero, List.set_cons_succ]
        refine wpAnyH_done (by kernel_rfl) ?_ _
        obtain ⟨one, hone⟩ : ∃ one, one = oneF kk wk a4 a5 a6 a7 := ⟨_, rfl⟩
        have e1 : IntKind.u32.wrap (IntKind.u32.wrap (IntKind.u32.wrap (IntKind.u32.wrap (a7 + s1) + bits .xor .u32 (bits .and .u32 a4 a5) (bits .and .u32 (bits .xor .u32 (if IntKind.u32.signed = true then -1 else IntKind.u32.max) a4) a6)) + kk) + wk) = one := by
          rw [hone, ← HS1.out]
          unfold oneF bg1 chF cpl
          simp only [IntKind.wrap_u32]
          rfl
        rw [e1]
        rw [← hone] at HRN
        clear hHeld e1 hone HS1
        have HV7 := Lib.hid (HSK.out _ HKX.out HTX.out).1
        have HK7 := Lib.hid (HK5.out.trans HKX.out (fun i h => Or.inl (Or.inl h)))
        clear HKX HSK HV5 HT5 HA5 HK5 HWD HWK
        go_wp2_with fail
        refine (rotI_any a0 2 (-2) HI0.out (by omega) (by omega) (by decide) w7).mono ?_
        rintro e w8 ⟨rfl, rfl⟩
        go_wp2_with fail
        refine (rotI_any a0 13 (-13) HI0.out (by omega) (by omega) (by decide) w7).mono ?_
        rintro e w8 ⟨rfl, rfl⟩
        go_wp2_with fail
        refine (rotI_any a0 22 (-22) HI0.out (by omega) (by omega) (by decide) w7).mono ?_
        rintro e w8 ⟨rfl, rfl⟩
        obtain ⟨_, c1, c2, _, _, _, _, _⟩ := HV7.out.c
        go_wp2_with fail
        obtain ⟨two, htwo⟩ : ∃ two, two = twoF a0 a1 a2 := ⟨_, rfl⟩
        have e2 : (bits BinOp.xor .u32 (bits BinOp.xor .u32 (rotI a0 2) (rotI a0 13)) (rotI a0 22) + bits BinOp.xor .u32 (bits BinOp.xor .u32 (bits BinOp.and .u32 a0 a1) (bits BinOp.and .u32 a0 a2)) (bits BinOp.and .u32 a1 a2)) % 4294967296 = two := by
          rw [htwo]; rfl
        rw [e2]
        rw [← htwo] at HRN
        generalize bits BinOp.xor .u32 (bits BinOp.xor .u32 (rotI a0 2) (rotI a0 13)) (rotI a0 22) = s2
        clear e2 htwo c1 c2
        refine wp_region_held_drew (S := fun _ => True) (by kernel_rfl) ?_ (fun hHeld => ?_)
        · trivial
        refine take_at (i := 0) (d := 153) (v := ?_) rfl rfl (by kernel_rfl) (by kernel_rfl) (by kernel_rfl) (fun _ _ _ h => h) (Or.inl ⟨by rfl, by intro w' hSw; (try dsimp only at hSw); go_simp; try with_reducible rfl⟩) (by assumption) ?_
        simp only [List.setIfInBounds_toArray, List.set_cons_zero, List.set_cons_succ]
        refine take_at (i := 1) (d := 154) (v := ?_) rfl rfl (by kernel_rfl) (by kernel_rfl) (by kernel_rfl) (fun _ _ _ h => h) (Or.inl ⟨by rfl, by intro w' hSw; (try dsimp only at hSw); go_simp; try with_reducible rfl⟩) (by assumption) ?_
        simp only [List.setIfInBounds_toArray, List.set_cons_zero, List.set_cons_succ]
        refine wpAnyH_ready (rs := [2]) (by kernel_rfl) (by simp) ?_
        refine AllReadyH.cons rfl (fun K hK => ?_) AllReadyH.nil
        go_simp
        obtain ⟨w8, hcp, h8v, hk8⟩ := V8.shift (HV7.out.same (w' := w7.drew) rfl) 3
        have HV8 := Lib.hid h8v
        have HK8 := Lib.hid (HK7.out.drew.trans hk8 (fun i h => Or.inl (Or.inr h)))
        have HT8 := Lib.hid (HTX.out.same (w' := w8) (hk8.block tb HTX.out.lt HNE2.out.1))
        clear h8v hk8 hHeld
        rw [hcp]
        clear hcp
        go_wp2_with fail
        refine hK.out _ _ ?_ (fun hHeld => ?_)
        · trivial
        clear hK K
        try simp only [Act.put, List.getElem_toArray, List.getElem_cons_succ, List.getElem_cons_zero]
        try simp only [List.setIfInBounds_toArray, List.set_cons_zero, List.set_cons_succ]
        refine wpAnyH_done (by kernel_rfl) ?_ _
        clear HV7 HK7 HTX
        obtain ⟨_, _, _, _, c4, _, _, _⟩ := HV8.out.c
        have f4 := HV8.out.f 4
        have f0 := HV8.out.f 0
        obtain ⟨q0, _, _, _, _, _, _, _⟩ := HV8.out.c
        go_wp2_with fail
        have hk9 : Keeps (fun i => i = V) w8 ((w8.setCell ⟨V, 4, none⟩ (.int .u32 ((a3 + one) % 4294967296))).setCell ⟨V, 0, none⟩ (.int .u32 ((one + two) % 4294967296))) := ((Keeps.refl (fun i => i = V) w8).setCell (p := ⟨V, 4, none⟩) (Or.inl rfl) _).setCell (p := ⟨V, 0, none⟩) (Or.inl rfl) _
        go_roundw
        case rel => exact ⟨k + 1, by omega, by go_num, _, _, _, _, _, _, _, _, HRN.out, (HV8.out.set4 _).set0 _, HT8.out.same (hk9.block tb HT8.out.lt HNE2.out.1), HK8.out.trans hk9 (fun i h => Or.inl (Or.inr h))⟩
        case measure => simp [intOf]; omega
      · obtain rfl : k = 64 := by omega
        have HMX : Hid (∀ j, j < 8 → (mixF [h0, h1, h2, h3, h4, h5, h6, h7] bs).getD j 0 = ([h0, h1, h2, h3, h4, h5, h6, h7].getD j 0 + [a0, a1, a2, a3, a4, a5, a6, a7].getD j 0) % 4294967296) := Lib.hid (by
          intro j hj
          unfold mixF
          rw [HR.out]
          match j, hj with
          | 0, _ => rfl
          | 1, _ => rfl
          | 2, _ => rfl
          | 3, _ => rfl
          | 4, _ => rfl
          | 5, _ => rfl
          | 6, _ => rfl
          | 7, _ => rfl)
        have HVA : Hid (ArrAt wr V 99 8 0 (fun j => [a0, a1, a2, a3, a4, a5, a6, a7].getD j 0)) := Lib.hid (V8.arr HV2.out)
        have HB4 : Hid (hb < V ∧ hb ≠ W ∧ hb ≠ tb) := Lib.hid (by have h1 := HH.out.lt; have := HLT.out; have := HNE.out; have := HWe.out; omega)
        have HHR := Lib.hid (HHV.out.same (HK3.out.block hb HHV.out.lt (by have := HB4.out; omega)))
        have HKR : Hid (Keeps (fun i => i = tb ∨ i = hb) w wr) := Lib.hid ((HKV.out.mono (S' := fun i => i = tb ∨ i = hb) (fun i hi h => absurd h (by have := HWe.out; omega))).trans HK3.out (fun i h => by
          rcases h with h | h
          · exact Or.inl (Or.inl h)
          · exact Or.inr (by have := HLT.out; have := HWe.out; omega)))
        clear HV2 HK3 HA3 HIN HLL HAV HTV HHV HV HKV HWV HBV HA1 HB1 HC HW1 HTAB HH HBS HN HBY
        generalize mixF [h0, h1, h2, h3, h4, h5, h6, h7] bs = MX at *
        generalize [a0, a1, a2, a3, a4, a5, a6, a7] = As at *
        generalize [h0, h1, h2, h3, h4, h5, h6, h7] = Hs at *
        rw [show ((64 : Nat) : Int) = 64 from rfl]
        go_wp2_with fail
        go_loopw [166] (fun i wi => ∃ k : Nat, k ≤ 8 ∧ i = .int .i64 k ∧ ArrF wi hb TH 8 ho (fun j => if j < k then MX.getD j 0 else Hs.getD j 0) c0 ∧ TabOk wi tb ∧ Keeps (fun i => i = hb) wr wi) (fun i _ => 8 - (intOf i).toNat)
        case atStart => exact ⟨0, Nat.zero_le _, rfl, HHR.out.to (fun j _ => by simp), HT3.out, Keeps.refl _ _⟩
        case round =>
          obtain ⟨k, hk, rfl, ha, ht, hkp⟩ := hrel
          have HHI2 := Lib.hid ha
          have HTI := Lib.hid ht
          have HKI := Lib.hid hkp
          clear ha ht hkp
          by_cases hlt : k < 8
          · have j0 : (0 : Int) ≤ (k : Int) := by omega
            have j1 : (k : Int) < 8 := by omega
            obtain ⟨ch, fh⟩ := HHI2.out.cell k hlt
            rw [if_neg (by omega)] at ch
            obtain ⟨cv, _⟩ := (HVA.out.same (HKI.out.block V HVA.out.lt (by have := HB4.out; omega))).cell k hlt
            simp only [Nat.zero_add] at cv
            go_wp2_with fail
            refine wp_region_held_drew (S := fun w' => w'.cell? ⟨V, k, none⟩ = some (.int .u32 (As.getD k 0))) (by kernel_rfl) ?_ (fun hHeld => ?_)
            · exact cv
            refine take_at (i := 0) (d := 169) (v := ?_) rfl rfl (by kernel_rfl) (by kernel_rfl) (by kernel_rfl) (fun _ _ _ h => h) (Or.inl ⟨by rfl, by intro w' hSw; (try dsimp only at hSw); go_simp; try with_reducible rfl⟩) (by assumption) ?_
            simp only [List.setIfInBounds_toArray, List.set_cons_zero, List.set_cons_succ]
            refine take_at (i := 1) (d := 170) (v := ?_) rfl rfl (by kernel_rfl) (by kernel_rfl) (by kernel_rfl) (fun _ _ _ h => h) (Or.inl ⟨by rfl, by intro w' hSw; (try dsimp only at hSw); go_simp; try with_reducible rfl⟩) (by assumption) ?_
            simp only [List.setIfInBounds_toArray, List.set_cons_zero, List.set_cons_succ]
            refine take_at (i := 2) (d := 171) (v := ?_) rfl rfl (by kernel_rfl) (by kernel_rfl) (by kernel_rfl) (fun _ _ _ h => h) (Or.inl ⟨by rfl, by intro w' hSw; (try dsimp only at hSw); go_simp; try with_reducible rfl⟩) (by assumption) ?_
            simp only [List.setIfInBounds_toArray, List.set_cons_zero, List.set_cons_succ]
            refine take_at (i := 3) (d := 172) (v := ?_) rfl rfl (by kernel_rfl) (by kernel_rfl) (by kernel_rfl) (fun _ _ _ h => h) (Or.inl ⟨by rfl, by intro w' hSw; (try dsimp only at hSw); go_simp; try with_reducible rfl⟩) (by assumption) ?_
            simp only [List.setIfInBounds_toArray, List.set_cons_zero, List.set_cons_succ]
            refine take_at (i := 5) (d := 174) (v := ?_) rfl rfl (by kernel_rfl) (by kernel_rfl) (by kernel_rfl) (fun _ _ _ h => h) (Or.inl ⟨by rfl, by intro w' hSw; (try dsimp only at hSw); go_simp; try with_reducible rfl⟩) (by assumption) ?_
            simp only [List.setIfInBounds_toArray, List.set_cons_zero, List.set_cons_succ]
            refine take_at (i := 6) (d := 175) (v := ?_) rfl rfl (by kernel_rfl) (by kernel_rfl) (by kernel_rfl) (fun _ _ _ h => h) (Or.inl ⟨by rfl, by intro w' hSw; (try dsimp only at hSw); go_simp; try with_reducible rfl⟩) (by assumption) ?_
            simp only [List.setIfInBounds_toArray, List.set_cons_zero, List.set_cons_succ]
            refine take_at (i := 7) (d := 176) (v := ?_) rfl rfl (by kernel_rfl) (by kernel_rfl) (by kernel_rfl) (fun _ _ _ h => h) (Or.inl ⟨by rfl, by intro w' hSw; (try dsimp only at hSw); go_simp; try with_reducible rfl⟩) (by assumption) ?_
            simp only [List.setIfInBounds_toArray, List.set_cons_zero, List.set_cons_succ]
            refine take_at (i := 9) (d := 178) (v := ?_) rfl rfl (by kernel_rfl) (by kernel_rfl) (by kernel_rfl) (fun _ _ _ h => h) (Or.inl ⟨by rfl, by intro w' hSw; (try dsimp only at hSw); go_simp; try with_reducible rfl⟩) (by assumption) ?_
            simp only [List.setIfInBounds_toArray, List.set_cons_zero, List.set_cons_succ]
            refine wpAnyH_ready (rs := [4]) (by kernel_rfl) (by simp) ?_
            refine AllReadyH.cons rfl (fun K hK => ?_) AllReadyH.nil
            go_simp
            go_wp2_with fail
            refine hK.out _ _ ?_ (fun hHeld => ?_)
            · exact cv
            clear hK K
            try simp only [Act.put, List.getElem_toArray, List.getElem_cons_succ, List.getElem_cons_zero]
            try simp only [List.setIfInBounds_toArray, List.set_cons_zero, List.set_cons_succ]
            refine take_at (i := 8) (d := 177) (v := ?_) rfl rfl (by kernel_rfl) (by kernel_rfl) (by kernel_rfl) (fun _ _ _ h => h) (Or.inl ⟨by rfl, by intro w' hSw; (try dsimp only at hSw); go_simp; try with_reducible rfl⟩) (by assumption) ?_
            simp only [List.setIfInBounds_toArray, List.set_cons_zero, List.set_cons_succ]
            refine take_at (i := 10) (d := 179) (v := ?_) rfl rfl (by kernel_rfl) (by kernel_rfl) (by kernel_rfl) (fun _ _ _ h => h) (Or.inl ⟨by rfl, by intro w' hSw; (try dsimp only at hSw); go_simp; try with_reducible rfl⟩) (by assumption) ?_
            simp only [List.setIfInBounds_toArray, List.set_cons_zero, List.set_cons_succ]
            refine wpAnyH_ready (rs := [11]) (by kernel_rfl) (by simp) ?_
            refine AllReadyH.cons rfl (fun K hK => ?_) AllReadyH.nil
            go_simp
            go_wp2_with fail
            refine hK.out _ _ ?_ (fun hHeld => ?_)
            · exact (World.cell?_setCell_other _ ⟨hb, ho + k, none⟩ ⟨V, k, none⟩ _ (by have := HB4.out; simp <;> omega)).trans cv
            clear hK K
            try simp only [Act.put, List.getElem_toArray, List.getElem_cons_succ, List.getElem_cons_zero]
            try simp only [List.setIfInBounds_toArray, List.set_cons_zero, List.set_cons_succ]
            refine wpAnyH_done (by kernel_rfl) ?_ _
            go_wp2_with fail
            have hk9 : Keeps (fun i => i = hb) wr ((wr.setCell ⟨hb, ho + k, none⟩ (.int .u32 ((Hs[k]?.getD 0 + As[k]?.getD 0) % 4294967296))).drew) := ((Keeps.refl (fun i => i = hb) wr).setCell (p := ⟨hb, ho + k, none⟩) (Or.inl rfl) _).drew
            go_roundw
            case rel =>
              refine ⟨k + 1, by omega, by go_num, ((HHI2.out.set k hlt _).same rfl).to (fun j hj => ?_), HTI.out.same (hk9.block tb HTI.out.lt (by have := HB4.out; omega)), HKI.out.trans hk9 (fun i h => Or.inl h)⟩
              by_cases e : j = k
              · subst e
                rw [if_pos rfl, if_pos (by omega), HMX.out j hlt]
                simp only [List.getD]
              · rw [if_neg e]
                by_cases e2 : j < k
                · rw [if_pos e2, if_pos (by omega)]
                · rw [if_neg e2, if_neg (by omega)]
            case measure => simp [intOf]; omega
          · obtain rfl : k = 8 := by omega
            go_wp2
            go_end0
            exact ⟨rfl, HTI.out, HHI2.out.to (fun j hj => by rw [HMF.out, if_pos hj]), HKR.out.trans HKI.out (fun i h => Or.inl (Or.inr h))⟩

end Go.Proofs.YtkaciaehlibidaaGreat
