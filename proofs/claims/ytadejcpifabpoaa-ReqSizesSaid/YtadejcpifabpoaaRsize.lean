/- ReqSizes' walk. -/
import Derived.Test.YtadejcpifabpoaaIn5
import Derived.Test.YtadejcpifabpoaaReq8
import Derived.Test.YtadejcpifabpoaaRsz
namespace Go.Proofs.Ytadejcpifabpoaa
open Go.RowKit
set_option linter.unusedVariables false

theorem rqLen_le (r : RQ) : rqLen r ≤ 51 := by unfold rqLen; (repeat' split) <;> omega
theorem rqLens_le (rs : List RQ) : (rs.map rqLen).sum ≤ 51 * rs.length := by
  induction rs with
  | nil => simp
  | cons r rs ih => have := rqLen_le r; simp; omega
theorem rqLens_take (rs : List RQ) (k : Nat) (h : k < rs.length) : ((rs.take (k + 1)).map rqLen).sum = ((rs.take k).map rqLen).sum + rqLen rs[k] := by
  rw [List.take_succ_eq_append_getElem h, List.map_append, List.sum_append]; simp
theorem rqLens_takes (rs : List RQ) (k : Nat) : ((rs.take k).map rqLen).sum ≤ 51 * rs.length := by
  have h1 := rqLens_le (rs.take k)
  have h2 : (rs.take k).length ≤ rs.length := by simp; omega
  omega

theorem ints_take {k : IntKind} {w : World} {ao : Option Addr} {zs : List Int} (h : IntsAt k w ao zs) (n : Nat) : IntsAt k w ao (zs.take n) := by
  rcases h with h | ⟨b, off, h1, h2⟩
  · exact Or.inl (by rw [h]; simp)
  · refine Or.inr ⟨b, off, h1, fun i hi => ?_⟩
    have h3 : i < zs.length := by simp at hi; omega
    have h4 : i < n := by simp at hi; omega
    rw [h2 i h3]
    simp [List.getD, h4]

set_option maxRecDepth 100000 in
set_option maxHeartbeats 4000000 in
theorem sizes_core (W : World) (seen : Int) (ao : Option Addr) (rs : List RQ) (n cap : Nat) (hn : rs.length = n) (h : RqsAt W ao rs) (hcap : n ≤ cap) (hcm : cap ≤ maxLen) (cut : Int) :
    Calls Try.prog 9 #[.agg #[.int .i64 seen, .slice ao n cap], .int .i64 cut] W fun e w' => e = .returned (.bool true) ∧ Below W.heap.size W w' := by
  obtain ⟨w1, hw1⟩ : ∃ w1, w1 = W.alloc (.cells #[.int .i64 seen, .slice ao n cap] 46) := ⟨_, rfl⟩
  have HK : Hid (∀ w', Below w1.heap.size w1 w' → w'.cell? ⟨W.heap.size, 0, none⟩ = some (.int .i64 seen) ∧ w'.cell? ⟨W.heap.size, 1, none⟩ = some (.slice ao n cap) ∧ RqsAt w' ao rs ∧ Below W.heap.size W w') := Lib.hid (by
    intro w' hb
    have hx : w1.heap[W.heap.size]? = some (.cells #[.int .i64 seen, .slice ao n cap] 46 (0, 0)) := by rw [hw1]; exact heap_alloc_new W _
    have hx' := (hb.block _ (blk_lt hx)).trans hx
    have h1 : Below W.heap.size W w1 := by rw [hw1]; exact (Below.refl _ _).alloc (Nat.le_refl _) _
    exact ⟨blk_cell hx' 0, blk_cell hx' 1, (h.below h1).below hb, h1.trans (hb.mono h1.size)⟩)
  have HN := Lib.hid hn
  have HC := Lib.hid hcap
  have HM := Lib.hid hcm
  have HW1 := Lib.hid hw1
  clear h hn hw1
  go_enter Try.func9, Try.ntmps9
  go_wp2_with fail
  rw [← HW1.out]
  refine (first11 w1 w1 (Below.refl _ _)).mono ?_
  rintro e w2 ⟨rfl, hb2⟩
  have HB2 := Lib.hid hb2
  obtain ⟨x0, x1, hr2, _⟩ := HK.out w2 hb2
  have HFW := Lib.hid (few11_any seen ao rs n cap w2 HN.out hr2 HC.out HM.out)
  clear hb2 hr2
  by_cases hf : fewRq rs = true
  · rw [hf] at HFW
    have HFF := Lib.hid (fewRq_facts rs hf)
    clear hf
    go_wp2_with fail
    refine HFW.out.mono ?_
    rintro e w3 ⟨rfl, hb3⟩
    have HB3 := Lib.hid (HB2.out.trans (hb3.mono HB2.out.size))
    obtain ⟨x0', x1', hr3, _⟩ := HK.out w3 HB3.out
    have HENC := Lib.hid (encodeBatch seen ao rs n cap w3 HN.out hr3 (by have := HFF.out.2; omega))
    clear hb3 hr3 x0 x1 HFW
    go_wp2_with fail
    refine HENC.out.mono ?_
    rintro e w4 ⟨eo, ecap, rfl, hi4, hb4, hf4, hec⟩
    have HEC := Lib.hid hec
    have HB4 := Lib.hid (HB3.out.trans (hb4.mono HB3.out.size))
    have HI4 := Lib.hid hi4
    have HEI := Lib.hid (encF_in seen rs)
    obtain ⟨x0, x1, hr4, _⟩ := HK.out w4 HB4.out
    have HR4 := Lib.hid hr4
    clear hb4 hi4 hr4 x0' x1' HENC hf4 hec
    by_cases her : (encF seen rs).2 = 0
    · have HLEN := Lib.hid (encF_len seen rs her)
      have HMORE := Lib.hid (decF_more seen rs her)
      have HCUT := Lib.hid (decF_cut seen rs her)
      have HPC : Hid (encF seen rs = ((encF seen rs).1, 0)) := Lib.hid (by rw [← her])
      rw [her]
      have h100 : n ≤ 100 := by have := HFF.out.1; have := HN.out; omega
      generalize (encF seen rs).1 = pk at *
      obtain ⟨L, hL⟩ : ∃ L, L = pk.length := ⟨_, rfl⟩
      rw [← hL] at HCUT HLEN HEC ⊢
      have HLL := Lib.hid hL
      have hL0 : L ≤ 5200 := by have := HLEN.out; have := rqLens_le rs; have := HN.out; omega
      clear her hL HPC
      go_wp2_with fail
      go_loopw [7, 8] (fun s i wr => ∃ k : Nat, k ≤ n ∧ i = .int .i64 k ∧ s = .int .i64 (3 + (((rs.take k).map rqLen).sum : Nat) : Int) ∧ wr = w4) (fun _ i _ => n - (intOf i).toNat)
      case atStart => exact ⟨0, Nat.zero_le _, rfl, rfl, rfl⟩
      case round =>
        obtain ⟨k, hk, rfl, rfl, rfl⟩ := hrel
        by_cases hlt : k < n
        · have hkb : k < rs.length := by rw [HN.out]; exact hlt
          obtain ⟨b, off, rfl, hat⟩ := rq_cells HR4.out k hkb
          have c0 := hat.all.1
          have hS := rqLens_take rs k hkb
          have hT := rqLens_takes rs k
          rw [HN.out] at hT
          have j0 : (0 : Int) ≤ (k : Int) := by omega
          have j1 : (k : Int) < (n : Int) := by omega
          have j2 : (k : Int) ≤ 100 := by omega
          generalize rs[k] = r at *
          generalize hSS : ((rs.take k).map rqLen).sum = S at *
          have HSS := Lib.hid hSS
          have HS := Lib.hid hS
          obtain ⟨z, hz⟩ : ∃ z, z = r.k := ⟨_, rfl⟩
          rw [← hz] at c0
          have HZ := Lib.hid hz
          clear hat hS hz hSS
          have hT2 : S ≤ 5100 := by omega
          clear hT
          by_cases h1 : z = 1
          case' pos =>
            subst h1
            have HS' : Hid (((rs.take (k + 1)).map rqLen).sum = S + 11) := Lib.hid (by rw [HS.out]; simp [rqLen, ← HZ.out])
            go_wp2
            go_roundw
            case rel => exact ⟨k + 1, by omega, by go_num, by rw [HS'.out]; go_num, by first | rfl | trivial⟩
            case measure => simp [intOf]; omega
          by_cases h2 : z = 2
          case' pos =>
            subst h2
            have HS' : Hid (((rs.take (k + 1)).map rqLen).sum = S + 51) := Lib.hid (by rw [HS.out]; simp [rqLen, ← HZ.out])
            go_wp2
            go_roundw
            case rel => exact ⟨k + 1, by omega, by go_num, by rw [HS'.out]; go_num, by first | rfl | trivial⟩
            case measure => simp [intOf]; omega
          by_cases h3 : z = 3
          case' pos =>
            subst h3
            have HS' : Hid (((rs.take (k + 1)).map rqLen).sum = S + 35) := Lib.hid (by rw [HS.out]; simp [rqLen, ← HZ.out])
            go_wp2
            go_roundw
            case rel => exact ⟨k + 1, by omega, by go_num, by rw [HS'.out]; go_num, by first | rfl | trivial⟩
            case measure => simp [intOf]; omega
          by_cases h4 : z = 4
          case' pos =>
            subst h4
            have HS' : Hid (((rs.take (k + 1)).map rqLen).sum = S + 3) := Lib.hid (by rw [HS.out]; simp [rqLen, ← HZ.out])
            go_wp2
            go_roundw
            case rel => exact ⟨k + 1, by omega, by go_num, by rw [HS'.out]; go_num, by first | rfl | trivial⟩
            case measure => simp [intOf]; omega
          have HS' : Hid (((rs.take (k + 1)).map rqLen).sum = S) := Lib.hid (by rw [HS.out]; simp [rqLen, ← HZ.out, h1, h2, h3, h4])
          have b1 : (z == 1) = false := by simp [h1]
          have b2 : (z == 2) = false := by simp [h2]
          have b3 : (z == 3) = false := by simp [h3]
          have b4 : (z == 4) = false := by simp [h4]
          clear h1 h2 h3 h4
          go_wp2
          go_roundw
          case rel => exact ⟨k + 1, by omega, by go_num, by rw [HS'.out], by first | rfl | trivial⟩
          case measure => simp [intOf]; omega
        · obtain rfl : k = n := by omega
          rw [List.take_of_length_le (by rw [HN.out]; exact Nat.le_refl _)]
          have hLE : (3 + ((rs.map rqLen).sum : Int)) = (L : Int) := by have := HLEN.out; omega
          rw [hLE]
          obtain ⟨i0, hi, hz0, hz1, hz2⟩ := info_parts Try_infoU8
          clear hLE hlt
          go_wp2_with fail
          refine (copyBytes eo pk L ecap _ HLL.out.symm HI4.out (by omega)).mono ?_
          rintro e w6 ⟨ao2, cap2, rfl, hr6⟩
          rw [← HLL.out] at hr6
          rw [← HLL.out]
          have HR6 := Lib.hid hr6
          have HO6 := Lib.hid hr6.1
          clear hr6
          go_wp2_with (at_builtin; refine wpList_append_any rfl _ _ 41 rfl 5 i0 (.int .u8 0) 1 1 Try.underlying41 hi hz0 hz1 hz2 rfl (by decide) (.slice ao2 L cap2) L (pk.map (Value.int .u8)) rfl ?c0 (some ⟨w6.heap.size, 0, none⟩) 1 1 [.int .u8 0] rfl rfl (by intro e; cases e) ?c3 (by simp [Value.oneCell']) ?c5 ?c6 ?_)
          case c0 => have := HO6.out; rw [← HLL.out] at this; exact this.alloc _
          case c3 => intro ad had; cases had; exact World.news_of_block (cs := #[.int .u8 0]) (heap_alloc_new _ _)
          case c5 => unfold maxLen; omega
          case c6 => omega
          intro ao3 cap3 w7 hown hgrow hat hnn
          have hb6 : Below w1.heap.size w1 w6 := HB4.out.trans (HR6.out.2.1.mono HB4.out.size)
          have h67 : Below wr.heap.size wr w7 := ((HR6.out.2.1.alloc HR6.out.2.1.size _).grown hgrow (by have := HR6.out.2.1.size; simp; omega) (fun k' hk' => HR6.out.2.2 k' hk'))
          have HB7 := Lib.hid (HB4.out.trans (h67.mono HB4.out.size))
          have HI7 := Lib.hid (ints_below HI4.out h67)
          have hs7 := (owns_at (zs := pk ++ [0]) (by simpa using hown))
          have HDB := Lib.hid (decodeBatch ao3 (pk ++ [0]) (L + 1) cap3 w7 (by simp [HLL.out]) hs7.2.1 (by intro z hz; rcases List.mem_append.1 hz with h | h; exact HEI.out z h; simp at h; omega) (by simpa using hs7.2.2.1) hs7.2.2.2 (by omega))
          clear hown hgrow hat hnn hb6 h67 HR6 HO6 hs7
          go_wp2_with fail
          refine HDB.out.mono ?_
          rintro e w8 ⟨bo, m, c', rfl, _, _, _, _, _, _, hb8⟩
          have HB8 := Lib.hid (HB7.out.trans (hb8.mono HB7.out.size))
          have HI8 := Lib.hid (ints_below HI7.out hb8)
          rw [HMORE.out]
          clear hb8 HDB
          have HCB : Hid (∀ (c : Nat) (w : World), c < L → Below w1.heap.size w1 w → IntsAt .u8 w eo pk → Calls Try.prog 38 #[.slice eo c ecap] w fun e w' => ∃ x, e = .returned (.tuple #[x, .int .i64 2]) ∧ (∃ z a b d, x = .agg #[.int .i64 z, .slice a b d]) ∧ Below w.heap.size w w') := Lib.hid (fun c w hc hb hi => by
            have h1 := decodeBatch eo (pk.take c) c ecap w (by simp [← HLL.out]; omega) (ints_take hi c) (fun z hz => HEI.out z (List.mem_of_mem_take hz)) (by have := HEC.out.1; omega) HEC.out.2 (by omega)
            refine h1.mono ?_
            rintro e w' ⟨bo, m, c', rfl, _, _, _, _, _, _, hb⟩
            rw [HCUT.out c hc]
            exact ⟨_, rfl, ⟨_, _, _, _, rfl⟩, hb⟩)
          clear HCUT
          generalize (decF (pk ++ [0])).1.1 = q1 at *
          by_cases c1 : cut < 0
          · go_wp2_with (go_at_call 22; refine (first11 w1 _ (HB8.out.trans ((((Below.refl _ _).alloc (Nat.le_refl _) _).mono HB8.out.size)))).mono ?_; rintro e w9 ⟨rfl, hb⟩)
            go_ret
            exact ⟨rfl, (HK.out _ hb).2.2.2⟩
          · obtain ⟨c, rfl⟩ := Int.eq_ofNat_of_zero_le (Int.not_lt.1 c1)
            by_cases c2 : (L : Int) ≤ (c : Int)
            · go_wp2_with (go_at_call 22; refine (first11 w1 _ (HB8.out.trans ((((Below.refl _ _).alloc (Nat.le_refl _) _).mono HB8.out.size)))).mono ?_; rintro e w9 ⟨rfl, hb⟩)
              go_ret
              exact ⟨rfl, (HK.out _ hb).2.2.2⟩
            · have c3 : (c : Int) ≤ (ecap : Int) := by have := HEC.out.1; omega
              have HCL := Lib.hid (show c < L by omega)
              go_wp2_with fail
              have HA8 := Lib.hid (((Below.refl w8.heap.size w8).alloc (Nat.le_refl _) (.cells #[.int .i64 q1, .slice bo m c'] 46)))
              refine (HCB.out c _ HCL.out (HB8.out.trans (HA8.out.mono HB8.out.size)) (ints_below HI8.out HA8.out)).mono ?_
              rintro e w9 ⟨x, rfl, ⟨z, a, b, d, rfl⟩, hb9⟩
              have HB9 := Lib.hid ((HB8.out.trans (HA8.out.mono HB8.out.size)).trans (hb9.mono (by have := HB8.out.size; simp; omega)))
              clear hb9 HA8
              go_wp2_with (go_at_call 22; refine (first11 w1 _ (HB9.out.trans ((((Below.refl _ _).alloc (Nat.le_refl _) _).mono HB9.out.size)))).mono ?_; rintro e w10 ⟨rfl, hb⟩)
              go_ret
              exact ⟨rfl, (HK.out _ hb).2.2.2⟩
    · have HE1 : Hid (encF seen rs = ([], 1)) := Lib.hid (by rcases encF_12 seen rs with h | h; exact absurd h her; exact h)
      rw [HE1.out] at HI4 ⊢
      clear her
      go_wp2_with (go_at_call 22; refine (first11 w1 _ HB4.out).mono ?_; rintro e w9 ⟨rfl, hb⟩)
      go_ret
      exact ⟨rfl, (HK.out _ hb).2.2.2⟩
  · have hf' : fewRq rs = false := by simpa using hf
    rw [hf'] at HFW
    clear hf hf'
    go_wp2_with fail
    refine HFW.out.mono ?_
    rintro e w3 ⟨rfl, hb3⟩
    have HB3 := Lib.hid (HB2.out.trans (hb3.mono HB2.out.size))
    clear hb3
    go_wp2_with (go_at_call 22; refine (first11 w1 _ HB3.out).mono ?_; rintro e w9 ⟨rfl, hb⟩)
    go_ret
    exact ⟨rfl, (HK.out _ hb).2.2.2⟩

theorem walk_reqSizes (W : World) (seen : Int) (ao : Option Addr) (rs : List RQ) (n cap : Nat) (hn : rs.length = n) (h : RqsAt W ao rs) (hcap : n ≤ cap) (hcm : cap ≤ maxLen) (cut : Int) (w1 : (Lit.int .i64 cut).wf = true) :
    Calls Try.prog 9 #[.agg #[.int .i64 seen, .slice ao n cap], .int .i64 cut] W fun e w' => e = .returned (.bool true) ∧ Below W.heap.size W w' := sizes_core W seen ao rs n cap hn h hcap hcm cut

end Go.Proofs.Ytadejcpifabpoaa
