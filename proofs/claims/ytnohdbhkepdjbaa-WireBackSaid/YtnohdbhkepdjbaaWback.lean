/- WireBack is true for every input, and its arguments read behind the call as before; no condition. -/
import Derived.Test.YtnohdbhkepdjbaaEone
import Derived.Test.YtnohdbhkepdjbaaFew4
import Derived.Test.YtnohdbhkepdjbaaRefe
import Derived.Test.YtnohdbhkepdjbaaReads
namespace Go.Proofs.Ytnohdbhkepdjbaa
open Go.ChangeShapes Go.WideShapes Go.ChangeAt Go.RowKit
set_option linter.unusedVariables false

theorem encNum_len8 (bs : List Int) (e n size : Int) : (encNum bs e n size).1.length ≤ bs.length + 8 := by
  unfold encNum
  split
  · split
    · rename_i h
      have : 1 ≤ size ∧ size ≤ 8 := Decidable.byContradiction fun hc => by rw [fitsB_not n size hc] at h; cases h
      simp [putB_length]; omega
    · simp
  · simp
theorem encBytes_len8 (bs : List Int) (e : Int) (zs : List Int) : (encBytes bs e zs).1.length ≤ bs.length + 8 + zs.length := by
  unfold encBytes
  split
  · split <;> simp [putB_length] <;> omega
  · simp; omega
theorem encNum_in (bs : List Int) (e n size : Int) (h : InB bs) : InB (encNum bs e n size).1 := by
  unfold encNum
  split
  · split
    · intro z hz
      rcases List.mem_append.1 hz with hz | hz
      · exact h z hz
      · exact putB_in _ _ z hz
    · exact h
  · exact h
theorem encBytes_in (bs : List Int) (e : Int) (zs : List Int) (h : InB bs) (hz : InB zs) : InB (encBytes bs e zs).1 := by
  unfold encBytes
  split
  · split
    · exact h
    · intro z hm
      rcases List.mem_append.1 hm with hm | hm
      · rcases List.mem_append.1 hm with hm | hm
        · exact h z hm
        · exact putB_in _ _ z hm
      · exact hz z hm
  · exact h

/-- What the operations write. -/
def encOp (s : List Int × Int) (o : WOp) : List Int × Int := if o.k = 0 then encNum s.1 s.2 o.n o.z else encBytes s.1 s.2 o.b.zs
def packO : List WOp → List Int
  | [] => []
  | o :: os => (if o.k = 0 then putB o.n o.z.toNat else putB o.b.zs.length 2 ++ o.b.zs) ++ packO os
def fitsO (o : WOp) : Prop := if o.k = 0 then fitsB o.n o.z = true else o.b.zs.length ≤ 65535
theorem encOp_err (s : List Int × Int) (o : WOp) (h : s.2 ≠ 0) : encOp s o = s := by
  unfold encOp encNum encBytes
  split <;> simp_all
theorem encAll_err (os : List WOp) (s : List Int × Int) (h : s.2 ≠ 0) : os.foldl encOp s = s := by
  induction os with
  | nil => rfl
  | cons o os ih => rw [List.foldl_cons, encOp_err s o h, ih]
theorem encAll_ok (os : List WOp) (bs : List Int) (h : (os.foldl encOp (bs, 0)).2 = 0) : os.foldl encOp (bs, 0) = (bs ++ packO os, 0) ∧ ∀ o ∈ os, fitsO o := by
  induction os generalizing bs with
  | nil => exact ⟨by simp [packO], fun o ho => by cases ho⟩
  | cons o os ih =>
    rw [List.foldl_cons] at h ⊢
    have h0 : (encOp (bs, 0) o).2 = 0 := Decidable.byContradiction fun hc => by rw [encAll_err os _ hc] at h; exact hc h
    have h1 : fitsO o ∧ encOp (bs, 0) o = (bs ++ (if o.k = 0 then putB o.n o.z.toNat else putB o.b.zs.length 2 ++ o.b.zs), 0) := by
      unfold encOp encNum encBytes at h0 ⊢
      unfold fitsO
      by_cases hk : o.k = 0
      · by_cases hf : fitsB o.n o.z = true
        · simp [hk, hf]
        · simp [hk, hf] at h0
      · by_cases hf : 65535 < o.b.zs.length
        · simp [hk, hf] at h0
        · simp [hk, hf]; omega
    rw [h1.2] at h ⊢
    obtain ⟨h2, h3⟩ := ih _ h
    refine ⟨by rw [h2, packO, List.append_assoc], fun x hx => ?_⟩
    rcases List.mem_cons.1 hx with rfl | hx
    · exact h1.1
    · exact h3 x hx
theorem packO_num (o : WOp) (os : List WOp) (hk : o.k = 0) (h : fitsO o) : decNum (packO (o :: os)) 0 o.z = (o.n, packO os, 0) := by
  simp only [fitsO, hk, if_true] at h
  have hs : 1 ≤ o.z ∧ o.z ≤ 8 := Decidable.byContradiction fun hc => by rw [fitsB_not o.n o.z hc] at h; cases h
  obtain ⟨s, hs'⟩ := Int.eq_ofNat_of_zero_le (show 0 ≤ o.z by omega)
  rw [hs'] at h ⊢
  simp only [packO, hk, if_true, hs', Int.toNat_natCast]
  exact decNum_put o.n s (packO os) h
theorem packO_bytes (o : WOp) (os : List WOp) (hk : ¬ o.k = 0) (h : fitsO o) : decBytes (packO (o :: os)) 0 = (o.b.zs, packO os, 0) := by
  simp only [fitsO, hk, if_false] at h
  simp only [packO, hk, if_false]
  exact decBytes_put o.b.zs (packO os) h

theorem beq_self (ao bo : Option Addr) (xs : List Int) (c d : Nat) (w : World) (hx : IntsAt .u8 w ao xs) (hy : IntsAt .u8 w bo xs) (rx : InB xs) :
    Calls Try.prog 38 #[.slice ao xs.length c, .slice bo xs.length d] w fun e w' => e = .returned (.bool true) ∧ w = w' := by
  have h := bytes_eq ao bo xs xs xs.length xs.length c d w rfl rfl hx hy rx rx
  rw [eqB_self] at h
  exact h
theorem D1.left {B w : World} {pd : Nat} {zs : List Int} {e : Int} (h : D1 B w pd zs e) :
    Calls Try.prog 44 #[.pointer (some ⟨pd, 0, none⟩)] w fun en w' => en = .returned (.int .i64 zs.length) ∧ w = w' := by
  obtain ⟨g, h1, h2, h3⟩ := h
  exact dec_left pd g zs e w h1
theorem take_at {P : Program} {md : Region.Mode} {ops : Array Oper} {Q : Exit → Act → World → Prop} {S : World → Prop} {i d : Nat} {oi : Oper} {v : Value} {fuel : Nat} {listed : Array Bool} {t : Array Value} {df : _} {w : World} (hi : ops[i]? = some oi) (hd : oi.dst = some d)
    (hs : Region.noSelect ops = true) (hf : Region.free md ops listed i = true) (hr : (Region.ready md ops listed).contains i = true)
    (hQ : ∀ c a w, Q (.panic c) (a.put oi.dst v) w → Q (.panic c) a w) (hy : YieldsIf P ops S oi v ⟨t, df⟩) (hS : S w)
    (h : wpAnyH P md ops Q S fuel (listed.setIfInBounds i true) ⟨t.setIfInBounds d v, df⟩ w) : wpAnyH P md ops Q S (fuel + 1) listed ⟨t, df⟩ w :=
  wpAnyH_take hi hs hf hr hQ hy hS (by rw [hd]; exact h)

set_option linter.unusedSimpArgs false in
set_option maxRecDepth 100000 in
set_option maxHeartbeats 4000000 in
theorem wback_core (W : World) (to_ : Option Addr) (rs : List WOp) (n cap : Nat) (hn : rs.length = n) (HT0 : OpsAt W to_ rs) (hcap : n ≤ cap) (hcm : cap ≤ maxLen) :
    Calls Try.prog 12 #[.slice to_ n cap] W fun e w' => e = .returned (.bool true) ∧ Below W.heap.size W w' := by
  have hb0 := Lib.hid (Below.refl W.heap.size W)
  have HT := Lib.hid HT0
  have HN := Lib.hid hn
  clear HT0 hn
  have HC0 : Hid (∀ k, k < n → ∃ b off, to_ = some ⟨b, off, none⟩ ∧ ∀ (hk : k < rs.length) w', Below W.heap.size W w' → (w'.cell? ⟨b, off + k * 4, none⟩ = some (.int .i64 rs[k].k) ∧ w'.cell? ⟨b, off + k * 4 + 1, none⟩ = some (.int .i64 rs[k].n) ∧
            w'.cell? ⟨b, off + k * 4 + 2, none⟩ = some (.int .i64 rs[k].z) ∧ w'.cell? ⟨b, off + k * 4 + 3, none⟩ = some (.slice rs[k].b.ao rs[k].b.zs.length rs[k].b.cap))) := Lib.hid (fun k hk => by
    have hkb : k < rs.length := by rw [HN.out]; exact hk
    obtain ⟨b, off, h1, h2⟩ := op_cell HT.out k hkb
    refine ⟨b, off, h1, fun _ w' hb => ?_⟩
    obtain ⟨b', off', h1', h2'⟩ := op_cell (HT.out.below hb) k hkb
    rw [h1] at h1'; cases h1'; exact h2')
  go_enter Try.func12, Try.ntmps12
  go_wp2_with fail
  refine (first4 W _ hb0.out).mono ?_
  rintro e w1 ⟨rfl, hb1⟩
  have HB1 := Lib.hid hb1
  clear hb1
  go_wp2_with fail
  refine (newEnc _).mono ?_
  rintro e w3 ⟨rfl, hw2⟩
  have H2 := Lib.hid (E1.new HB1.out hw2)
  clear hw2
  have HB3 := Lib.hid H2.out.base
  go_wp2_with fail
  have HFW := Lib.hid (few4_any to_ rs n cap w3 HN.out (HT.out.below HB3.out) hcap hcm)
  by_cases hf : fewB (rs.map (fun o => o.b.zs.length)) 200 200000 = true
  · obtain ⟨f1, f2⟩ := few_facts _ _ _ hf
    have f1' : n ≤ 200 := by rw [← HN.out]; simpa using f1
    have HSUM : Hid (∀ k, ((rs.map (fun o => o.b.zs.length)).take k).sum ≤ 200000) := Lib.hid (fun k => by
      have h := congrArg List.sum (List.take_append_drop k (rs.map (fun o => o.b.zs.length)))
      rw [List.sum_append] at h
      omega)
    clear f1 f2
    refine HFW.out.mono ?_
    rintro e w4 ⟨rfl, rfl⟩
    rw [hf]
    clear HFW hf
    go_wp2_with fail
    go_loopw [4] (fun i wr => ∃ k : Nat, ∃ bs : List Int, ∃ e : Int, k ≤ n ∧ i = .int .i64 k ∧ E1 W wr w1.heap.size bs e ∧ ((rs.take k).foldl encOp ([], 0) = (bs, e) ∧ InB bs) ∧ bs.length ≤ 8 * k + ((rs.map (fun o => o.b.zs.length)).take k).sum) (fun i _ => n - (intOf i).toNat)
    case atStart => exact ⟨0, [], 0, Nat.zero_le _, rfl, H2.out, ⟨rfl, fun z hz => by cases hz⟩, Nat.zero_le _⟩
    case round =>
      obtain ⟨k, bs, e1, hk, rfl, hE, hag, hl1⟩ := hrel
      have HE := Lib.hid hE
      have HG := Lib.hid hag
      clear hag
      have hs1 := HSUM.out k
      by_cases hlt : k < n
      · have hkb : k < rs.length := by rw [HN.out]; exact hlt
        have hs2 := HSUM.out (k + 1)
        have HSS := Lib.hid (sum_take_succ (rs.map (fun o => o.b.zs.length)) k (by simpa using hkb))
        obtain ⟨b, off, rfl, hc⟩ := HC0.out k hlt
        have hc := hc hkb
        have HI : Hid (∀ w', Below W.heap.size W w' → IntsAt .u8 w' rs[k].b.ao rs[k].b.zs) := Lib.hid (fun w' hb => ints_below (op_ok HT.out k hkb).2.1 hb)
        have HF := Lib.hid (op_ok HT.out k hkb).2.2.2.2.2
        have HFI := Lib.hid (op_ok HT.out k hkb).2.2.1
        have hlen : ((rs.map (fun o => o.b.zs.length)).take (k + 1)).sum = ((rs.map (fun o => o.b.zs.length)).take k).sum + rs[k].b.zs.length := by rw [HSS.out]; simp
        have HL2 := Lib.hid hlen
        have HFO : Hid ((rs.take (k + 1)).foldl encOp ([], 0) = encOp (bs, e1) rs[k]) := Lib.hid (by
          rw [List.take_succ_eq_append_getElem hkb, List.foldl_append, HG.out.1]; rfl)
        generalize ((rs.map (fun o => o.b.zs.length)).take k).sum = S1 at *
        generalize rs[k] = o at *
        clear HSS hlen
        obtain ⟨c0, c1, c2, c3⟩ := hc wr hE.base
        have hzl : o.b.zs.length ≤ 200000 := by have := HL2.out; omega
        clear hs2 hc
        by_cases hk0 : o.k = 0
        · have hk1 : (o.k == 0) = true := by simp [hk0]
          have HA : Hid (encOp (bs, e1) o = encNum bs e1 o.n o.z) := Lib.hid (by simp [encOp, hk0])
          clear hk0 c3 hE
          go_wp2_with fail
          go_region_with (go_at_call 21; refine (HE.out.drew.num o.n o.z _ rfl (by omega)).mono ?_; rintro e w4 ⟨rfl, h4⟩; have H4 := Lib.hid h4; clear h4)
          all_goals
            go_wp2
            go_roundw
            case rel => exact ⟨k + 1, _, _, by omega, by go_num, H4.out, ⟨by rw [HFO.out, HA.out], encNum_in bs e1 o.n o.z HG.out.2⟩, by have := encNum_len8 bs e1 o.n o.z; have := HL2.out; omega⟩
            case measure => simp [intOf]; omega
        · have hk1 : (o.k == 0) = false := by simp [hk0]
          have HA : Hid (encOp (bs, e1) o = encBytes bs e1 o.b.zs) := Lib.hid (by simp [encOp, hk0])
          clear hk0 c1 c2
          go_wp2_with fail
          refine (HE.out.bytes _ _ _ _ rfl (HI.out wr hE.base) HF.out _ rfl (by omega)).mono ?_
          rintro e w4 ⟨rfl, h4⟩
          have H4 := Lib.hid h4
          clear h4 hE
          go_wp2
          go_roundw
          case rel => exact ⟨k + 1, _, _, by omega, by go_num, H4.out, ⟨by rw [HFO.out, HA.out], encBytes_in bs e1 o.b.zs HG.out.2 HFI.out⟩, by have := encBytes_len8 bs e1 o.b.zs; have := HL2.out; omega⟩
          case measure => simp [intOf]; omega
      · obtain rfl : k = n := by omega
        have HFO : Hid (rs.foldl encOp ([], 0) = (bs, e1)) := Lib.hid (by have h := HG.out.1; rw [List.take_of_length_le (by rw [HN.out]; exact Nat.le_refl _)] at h; exact h)
        have HBW := Lib.hid hE.base
        clear hlt hE
        go_wp2_with fail
        refine (HE.out.done (by omega) _ rfl).mono ?_
        rintro e w5 ⟨ao1, cap1, rfl, hr⟩
        have HE5 := Lib.hid (HE.out.below hr.2.1)
        have HB5 := Lib.hid HE5.out.base
        have HI5 := Lib.hid (owns_at hr.1).2.1
        clear hr
        by_cases he : e1 = 0
        · subst he
          obtain ⟨hx1, hx2⟩ := encAll_ok rs [] (by rw [HFO.out])
          rw [HFO.out, List.nil_append] at hx1
          obtain rfl : bs = packO rs := by cases hx1; rfl
          have HFT := Lib.hid hx2
          have HPI := Lib.hid HG.out.2
          rw [show doneB (packO rs) 0 = packO rs by simp [doneB]] at HI5 ⊢
          clear hx1 hx2 HFO
          go_wp2_with fail
          refine (newDec ao1 (packO rs) _ cap1 w5 rfl HI5.out HPI.out (by omega)).mono ?_
          rintro e w6 ⟨pd, g, rfl, hd, hb6, hpd, hg⟩
          have H6 := Lib.hid (show D1 w5 w6 pd (packO rs) 0 from ⟨g, hd, hb6, hpd⟩)
          have HB56 : Hid (∀ w', Below w5.heap.size w5 w' → Below W.heap.size W w') := Lib.hid (fun w' h => HB5.out.trans (h.mono HB5.out.size))
          clear hd hb6 hpd hg HE5 HI5 HE H2
          go_wp2_with fail
          go_loopw [8] (fun i wr => ∃ j : Nat, j ≤ k ∧ i = .int .i64 j ∧ D1 w5 wr pd (packO (rs.drop j)) 0) (fun i _ => k - (intOf i).toNat)
          case atStart => exact ⟨0, Nat.zero_le _, rfl, H6.out⟩
          case round =>
            obtain ⟨j, hj, rfl, hD⟩ := hrel
            have HD := Lib.hid hD
            have HBW2 := Lib.hid (HB56.out _ hD.base)
            by_cases hlt : j < k
            · have hkb : j < rs.length := by rw [HN.out]; exact hlt
              obtain ⟨b, off, rfl, hc⟩ := HC0.out j hlt
              have hc := hc hkb
              have HI : Hid (∀ w', Below W.heap.size W w' → IntsAt .u8 w' rs[j].b.ao rs[j].b.zs) := Lib.hid (fun w' hb => ints_below (op_ok HT.out j hkb).2.1 hb)
              have HFI := Lib.hid (op_ok HT.out j hkb).2.2.1
              have HFX := Lib.hid (HFT.out _ (List.getElem_mem hkb))
              have HDR := Lib.hid (List.drop_eq_getElem_cons hkb)
              rw [HDR.out] at HD
              generalize hos : rs.drop (j + 1) = os at *
              have HOS := Lib.hid hos
              generalize rs[j] = o at *
              have HCC := Lib.hid hc
              obtain ⟨c0, c1, c2, c3⟩ := hc wr HBW2.out
              clear hc hD HDR hos
              by_cases hk0 : o.k = 0
              · have hk1 : (o.k == 0) = true := by simp [hk0]
                have hk2 : (o.k != 0) = false := by simp [hk0]
                have HA := Lib.hid (packO_num o os hk0 HFX.out)
                have hnn : (o.n != o.n) = false := by simp
                clear hk0
                go_wp2_with fail
                refine wp_region_held_drew (S := fun w' => w'.cell? ⟨b, off + j * 4, none⟩ = some (.int .i64 o.k) ∧ w'.cell? ⟨b, off + j * 4 + 1, none⟩ = some (.int .i64 o.n) ∧ w'.cell? ⟨b, off + j * 4 + 2, none⟩ = some (.int .i64 o.z) ∧ w'.cell? ⟨b, off + j * 4 + 3, none⟩ = some (.slice o.b.ao o.b.zs.length o.b.cap)) (by kernel_rfl) ?_ (fun hHeld => ?_)
                · exact ⟨by simpa using c0, by simpa using c1, by simpa using c2, by simpa using c3⟩
                refine take_at (i := 0) (d := 78) (v := ?_) rfl rfl (by kernel_rfl) (by kernel_rfl) (by kernel_rfl) (fun _ _ _ h => h) (Or.inl ⟨by rfl, by intro w' hSw; (try dsimp only at hSw); go_simp; try with_reducible rfl⟩) (by assumption) ?_
                simp only [List.setIfInBounds_toArray, List.set_cons_zero, List.set_cons_succ]
                refine take_at (i := 1) (d := 79) (v := ?_) rfl rfl (by kernel_rfl) (by kernel_rfl) (by kernel_rfl) (fun _ _ _ h => h) (Or.inl ⟨by rfl, by intro w' hSw; (try dsimp only at hSw); go_simp; try with_reducible rfl⟩) (by assumption) ?_
                simp only [List.setIfInBounds_toArray, List.set_cons_zero, List.set_cons_succ]
                refine take_at (i := 2) (d := 80) (v := ?_) rfl rfl (by kernel_rfl) (by kernel_rfl) (by kernel_rfl) (fun _ _ _ h => h) (Or.inl ⟨by rfl, by intro w' hSw; (try dsimp only at hSw); go_simp; try with_reducible rfl⟩) (by assumption) ?_
                simp only [List.setIfInBounds_toArray, List.set_cons_zero, List.set_cons_succ]
                refine take_at (i := 3) (d := 81) (v := ?_) rfl rfl (by kernel_rfl) (by kernel_rfl) (by kernel_rfl) (fun _ _ _ h => h) (Or.inl ⟨by rfl, by intro w' hSw; (try dsimp only at hSw); go_simp; try with_reducible rfl⟩) (by assumption) ?_
                simp only [List.setIfInBounds_toArray, List.set_cons_zero, List.set_cons_succ]
                refine take_at (i := 4) (d := 82) (v := ?_) rfl rfl (by kernel_rfl) (by kernel_rfl) (by kernel_rfl) (fun _ _ _ h => h) (Or.inl ⟨by rfl, by intro w' hSw; (try dsimp only at hSw); go_simp; try with_reducible rfl⟩) (by assumption) ?_
                simp only [List.setIfInBounds_toArray, List.set_cons_zero, List.set_cons_succ]
                refine take_at (i := 5) (d := 83) (v := ?_) rfl rfl (by kernel_rfl) (by kernel_rfl) (by kernel_rfl) (fun _ _ _ h => h) (Or.inl ⟨by rfl, by intro w' hSw; (try dsimp only at hSw); go_simp; try with_reducible rfl⟩) (by assumption) ?_
                simp only [List.setIfInBounds_toArray, List.set_cons_zero, List.set_cons_succ]
                refine take_at (i := 6) (d := 84) (v := ?_) rfl rfl (by kernel_rfl) (by kernel_rfl) (by kernel_rfl) (fun _ _ _ h => h) (Or.inl ⟨by rfl, by intro w' hSw; (try dsimp only at hSw); go_simp; try with_reducible rfl⟩) (by assumption) ?_
                simp only [List.setIfInBounds_toArray, List.set_cons_zero, List.set_cons_succ]
                refine take_at (i := 7) (d := 85) (v := ?_) rfl rfl (by kernel_rfl) (by kernel_rfl) (by kernel_rfl) (fun _ _ _ h => h) (Or.inl ⟨by rfl, by intro w' hSw; (try dsimp only at hSw); go_simp; try with_reducible rfl⟩) (by assumption) ?_
                simp only [List.setIfInBounds_toArray, List.set_cons_zero, List.set_cons_succ]
                refine take_at (i := 8) (d := 86) (v := ?_) rfl rfl (by kernel_rfl) (by kernel_rfl) (by kernel_rfl) (fun _ _ _ h => h) (Or.inl ⟨by rfl, by intro w' hSw; (try dsimp only at hSw); go_simp; try with_reducible rfl⟩) (by assumption) ?_
                simp only [List.setIfInBounds_toArray, List.set_cons_zero, List.set_cons_succ]
                refine take_at (i := 9) (d := 87) (v := ?_) rfl rfl (by kernel_rfl) (by kernel_rfl) (by kernel_rfl) (fun _ _ _ h => h) (Or.inl ⟨by rfl, by intro w' hSw; (try dsimp only at hSw); go_simp; try with_reducible rfl⟩) (by assumption) ?_
                simp only [List.setIfInBounds_toArray, List.set_cons_zero, List.set_cons_succ]
                refine take_at (i := 10) (d := 88) (v := ?_) rfl rfl (by kernel_rfl) (by kernel_rfl) (by kernel_rfl) (fun _ _ _ h => h) (Or.inl ⟨by rfl, by intro w' hSw; (try dsimp only at hSw); go_simp; try with_reducible rfl⟩) (by assumption) ?_
                simp only [List.setIfInBounds_toArray, List.set_cons_zero, List.set_cons_succ]
                refine take_at (i := 11) (d := 89) (v := ?_) rfl rfl (by kernel_rfl) (by kernel_rfl) (by kernel_rfl) (fun _ _ _ h => h) (Or.inl ⟨by rfl, by intro w' hSw; (try dsimp only at hSw); go_simp; try with_reducible rfl⟩) (by assumption) ?_
                simp only [List.setIfInBounds_toArray, List.set_cons_zero, List.set_cons_succ]
                refine take_at (i := 12) (d := 90) (v := ?_) rfl rfl (by kernel_rfl) (by kernel_rfl) (by kernel_rfl) (fun _ _ _ h => h) (Or.inl ⟨by rfl, by intro w' hSw; (try dsimp only at hSw); go_simp; try with_reducible rfl⟩) (by assumption) ?_
                simp only [List.setIfInBounds_toArray, List.set_cons_zero, List.set_cons_succ]
                refine take_at (i := 14) (d := 92) (v := ?_) rfl rfl (by kernel_rfl) (by kernel_rfl) (by kernel_rfl) (fun _ _ _ h => h) (Or.inl ⟨by rfl, by intro w' hSw; (try dsimp only at hSw); go_simp; try with_reducible rfl⟩) (by assumption) ?_
                simp only [List.setIfInBounds_toArray, List.set_cons_zero, List.set_cons_succ]
                refine take_at (i := 15) (d := 93) (v := ?_) rfl rfl (by kernel_rfl) (by kernel_rfl) (by kernel_rfl) (fun _ _ _ h => h) (Or.inl ⟨by rfl, by intro w' hSw; (try dsimp only at hSw); go_simp; try with_reducible rfl⟩) (by assumption) ?_
                simp only [List.setIfInBounds_toArray, List.set_cons_zero, List.set_cons_succ]
                refine take_at (i := 16) (d := 94) (v := ?_) rfl rfl (by kernel_rfl) (by kernel_rfl) (by kernel_rfl) (fun _ _ _ h => h) (Or.inl ⟨by rfl, by intro w' hSw; (try dsimp only at hSw); go_simp; try with_reducible rfl⟩) (by assumption) ?_
                simp only [List.setIfInBounds_toArray, List.set_cons_zero, List.set_cons_succ]
                refine take_at (i := 17) (d := 95) (v := ?_) rfl rfl (by kernel_rfl) (by kernel_rfl) (by kernel_rfl) (fun _ _ _ h => h) (Or.inl ⟨by rfl, by intro w' hSw; (try dsimp only at hSw); go_simp; try with_reducible rfl⟩) (by assumption) ?_
                simp only [List.setIfInBounds_toArray, List.set_cons_zero, List.set_cons_succ]
                refine take_at (i := 18) (d := 96) (v := ?_) rfl rfl (by kernel_rfl) (by kernel_rfl) (by kernel_rfl) (fun _ _ _ h => h) (Or.inl ⟨by rfl, by intro w' hSw; (try dsimp only at hSw); go_simp; try with_reducible rfl⟩) (by assumption) ?_
                simp only [List.setIfInBounds_toArray, List.set_cons_zero, List.set_cons_succ]
                refine wpAnyH_ready (rs := [13]) (by kernel_rfl) (by simp) ?_
                refine AllReadyH.cons rfl (fun K hK => ?_) AllReadyH.nil
                go_simp
                go_at_call 40
                refine (HD.out.drew.num o.z _ HA.out).mono ?_
                rintro e w7 ⟨rfl, hb7, hd7⟩
                go_wp2_with fail
                refine hK.out _ _ ?_ (fun hHeld => ?_)
                · exact HCC.out w7 (HB56.out _ hb7)
                clear hK K
                try simp only [Act.put, List.getElem_toArray, List.getElem_cons_succ, List.getElem_cons_zero]
                try simp only [List.setIfInBounds_toArray, List.set_cons_zero, List.set_cons_succ]
                refine take_at (i := 19) (d := 97) (v := ?_) rfl rfl (by kernel_rfl) (by kernel_rfl) (by kernel_rfl) (fun _ _ _ h => h) (Or.inl ⟨by rfl, by intro w' hSw; (try dsimp only at hSw); go_simp; try with_reducible rfl⟩) (by assumption) ?_
                simp only [List.setIfInBounds_toArray, List.set_cons_zero, List.set_cons_succ]
                refine take_at (i := 20) (d := 98) (v := ?_) rfl rfl (by kernel_rfl) (by kernel_rfl) (by kernel_rfl) (fun _ _ _ h => h) (Or.inl ⟨by rfl, by intro w' hSw; (try dsimp only at hSw); go_simp; try with_reducible rfl⟩) (by assumption) ?_
                simp only [List.setIfInBounds_toArray, List.set_cons_zero, List.set_cons_succ]
                refine take_at (i := 21) (d := 99) (v := ?_) rfl rfl (by kernel_rfl) (by kernel_rfl) (by kernel_rfl) (fun _ _ _ h => h) (Or.inl ⟨by rfl, by intro w' hSw; (try dsimp only at hSw); go_simp; try with_reducible rfl⟩) (by assumption) ?_
                simp only [List.setIfInBounds_toArray, List.set_cons_zero, List.set_cons_succ]
                refine take_at (i := 22) (d := 100) (v := ?_) rfl rfl (by kernel_rfl) (by kernel_rfl) (by kernel_rfl) (fun _ _ _ h => h) (Or.inl ⟨by rfl, by intro w' hSw; (try dsimp only at hSw); go_simp; try with_reducible rfl⟩) (by assumption) ?_
                simp only [List.setIfInBounds_toArray, List.set_cons_zero, List.set_cons_succ]
                refine take_at (i := 23) (d := 101) (v := ?_) rfl rfl (by kernel_rfl) (by kernel_rfl) (by kernel_rfl) (fun _ _ _ h => h) (Or.inl ⟨by rfl, by intro w' hSw; (try dsimp only at hSw); go_simp; try with_reducible rfl⟩) (by assumption) ?_
                simp only [List.setIfInBounds_toArray, List.set_cons_zero, List.set_cons_succ]
                refine take_at (i := 24) (d := 102) (v := ?_) rfl rfl (by kernel_rfl) (by kernel_rfl) (by kernel_rfl) (fun _ _ _ h => h) (Or.inl ⟨by rfl, by intro w' hSw; (try dsimp only at hSw); go_simp; try with_reducible rfl⟩) (by assumption) ?_
                simp only [List.setIfInBounds_toArray, List.set_cons_zero, List.set_cons_succ]
                refine take_at (i := 25) (d := 103) (v := ?_) rfl rfl (by kernel_rfl) (by kernel_rfl) (by kernel_rfl) (fun _ _ _ h => h) (Or.inl ⟨by rfl, by intro w' hSw; (try dsimp only at hSw); go_simp; try with_reducible rfl⟩) (by assumption) ?_
                simp only [List.setIfInBounds_toArray, List.set_cons_zero, List.set_cons_succ]
                refine take_at (i := 26) (d := 104) (v := ?_) rfl rfl (by kernel_rfl) (by kernel_rfl) (by kernel_rfl) (fun _ _ _ h => h) (Or.inl ⟨by rfl, by intro w' hSw; (try dsimp only at hSw); go_simp; try with_reducible rfl⟩) (by assumption) ?_
                simp only [List.setIfInBounds_toArray, List.set_cons_zero, List.set_cons_succ]
                refine take_at (i := 27) (d := 105) (v := ?_) rfl rfl (by kernel_rfl) (by kernel_rfl) (by kernel_rfl) (fun _ _ _ h => h) (Or.inl ⟨by rfl, by intro w' hSw; (try dsimp only at hSw); go_simp; try with_reducible rfl⟩) (by assumption) ?_
                simp only [List.setIfInBounds_toArray, List.set_cons_zero, List.set_cons_succ]
                refine take_at (i := 28) (d := 106) (v := ?_) rfl rfl (by kernel_rfl) (by kernel_rfl) (by kernel_rfl) (fun _ _ _ h => h) (Or.inl ⟨by rfl, by intro w' hSw; (try dsimp only at hSw); go_simp; try with_reducible rfl⟩) (by assumption) ?_
                simp only [List.setIfInBounds_toArray, List.set_cons_zero, List.set_cons_succ]
                refine take_at (i := 29) (d := 107) (v := undef) rfl rfl (by kernel_rfl) (by kernel_rfl) (by kernel_rfl) (fun _ _ _ h => h) (Or.inr ⟨by rfl, rfl⟩) (by assumption) ?_
                simp only [List.setIfInBounds_toArray, List.set_cons_zero, List.set_cons_succ]
                refine take_at (i := 30) (d := 108) (v := undef) rfl rfl (by kernel_rfl) (by kernel_rfl) (by kernel_rfl) (fun _ _ _ h => h) (Or.inr ⟨by rfl, rfl⟩) (by assumption) ?_
                simp only [List.setIfInBounds_toArray, List.set_cons_zero, List.set_cons_succ]
                refine take_at (i := 31) (d := 109) (v := undef) rfl rfl (by kernel_rfl) (by kernel_rfl) (by kernel_rfl) (fun _ _ _ h => h) (Or.inr ⟨by rfl, rfl⟩) (by assumption) ?_
                simp only [List.setIfInBounds_toArray, List.set_cons_zero, List.set_cons_succ]
                refine take_at (i := 32) (d := 110) (v := undef) rfl rfl (by kernel_rfl) (by kernel_rfl) (by kernel_rfl) (fun _ _ _ h => h) (Or.inr ⟨by rfl, rfl⟩) (by assumption) ?_
                simp only [List.setIfInBounds_toArray, List.set_cons_zero, List.set_cons_succ]
                refine take_at (i := 33) (d := 111) (v := undef) rfl rfl (by kernel_rfl) (by kernel_rfl) (by kernel_rfl) (fun _ _ _ h => h) (Or.inr ⟨by rfl, rfl⟩) (by assumption) ?_
                simp only [List.setIfInBounds_toArray, List.set_cons_zero, List.set_cons_succ]
                refine take_at (i := 34) (d := 112) (v := undef) rfl rfl (by kernel_rfl) (by kernel_rfl) (by kernel_rfl) (fun _ _ _ h => h) (Or.inr ⟨by rfl, rfl⟩) (by assumption) ?_
                simp only [List.setIfInBounds_toArray, List.set_cons_zero, List.set_cons_succ]
                refine take_at (i := 35) (d := 113) (v := undef) rfl rfl (by kernel_rfl) (by kernel_rfl) (by kernel_rfl) (fun _ _ _ h => h) (Or.inr ⟨by rfl, rfl⟩) (by assumption) ?_
                simp only [List.setIfInBounds_toArray, List.set_cons_zero, List.set_cons_succ]
                refine take_at (i := 36) (d := 114) (v := undef) rfl rfl (by kernel_rfl) (by kernel_rfl) (by kernel_rfl) (fun _ _ _ h => h) (Or.inr ⟨by rfl, rfl⟩) (by assumption) ?_
                simp only [List.setIfInBounds_toArray, List.set_cons_zero, List.set_cons_succ]
                refine take_at (i := 37) (d := 115) (v := undef) rfl rfl (by kernel_rfl) (by kernel_rfl) (by kernel_rfl) (fun _ _ _ h => h) (Or.inr ⟨by rfl, rfl⟩) (by assumption) ?_
                simp only [List.setIfInBounds_toArray, List.set_cons_zero, List.set_cons_succ]
                refine take_at (i := 38) (d := 116) (v := ?_) rfl rfl (by kernel_rfl) (by kernel_rfl) (by kernel_rfl) (fun _ _ _ h => h) (Or.inl ⟨by rfl, by intro w' hSw; (try dsimp only at hSw); go_simp; try with_reducible rfl⟩) (by assumption) ?_
                simp only [List.setIfInBounds_toArray, List.set_cons_zero, List.set_cons_succ]
                refine take_at (i := 39) (d := 117) (v := ?_) rfl rfl (by kernel_rfl) (by kernel_rfl) (by kernel_rfl) (fun _ _ _ h => h) (Or.inl ⟨by rfl, by intro w' hSw; (try dsimp only at hSw); go_simp; try with_reducible rfl⟩) (by assumption) ?_
                simp only [List.setIfInBounds_toArray, List.set_cons_zero, List.set_cons_succ]
                refine wpAnyH_done (by kernel_rfl) ?_ _
                all_goals
                  go_wp2
                  go_roundw
                  case rel => exact ⟨j + 1, by omega, by go_num, by rw [HOS.out]; exact hd7⟩
                  case measure => simp [intOf]; omega
              · have hk1 : (o.k == 0) = false := by simp [hk0]
                have hk2 : (o.k != 0) = true := by simp [hk0]
                have HA := Lib.hid (packO_bytes o os hk0 HFX.out)
                clear hk0
                go_wp2_with fail
                refine wp_region_held_drew (S := fun w' => w'.cell? ⟨b, off + j * 4, none⟩ = some (.int .i64 o.k) ∧ w'.cell? ⟨b, off + j * 4 + 1, none⟩ = some (.int .i64 o.n) ∧ w'.cell? ⟨b, off + j * 4 + 2, none⟩ = some (.int .i64 o.z) ∧ w'.cell? ⟨b, off + j * 4 + 3, none⟩ = some (.slice o.b.ao o.b.zs.length o.b.cap)) (by kernel_rfl) ?_ (fun hHeld => ?_)
                · exact ⟨by simpa using c0, by simpa using c1, by simpa using c2, by simpa using c3⟩
                refine take_at (i := 0) (d := 78) (v := ?_) rfl rfl (by kernel_rfl) (by kernel_rfl) (by kernel_rfl) (fun _ _ _ h => h) (Or.inl ⟨by rfl, by intro w' hSw; (try dsimp only at hSw); go_simp; try with_reducible rfl⟩) (by assumption) ?_
                simp only [List.setIfInBounds_toArray, List.set_cons_zero, List.set_cons_succ]
                refine take_at (i := 1) (d := 79) (v := ?_) rfl rfl (by kernel_rfl) (by kernel_rfl) (by kernel_rfl) (fun _ _ _ h => h) (Or.inl ⟨by rfl, by intro w' hSw; (try dsimp only at hSw); go_simp; try with_reducible rfl⟩) (by assumption) ?_
                simp only [List.setIfInBounds_toArray, List.set_cons_zero, List.set_cons_succ]
                refine take_at (i := 2) (d := 80) (v := ?_) rfl rfl (by kernel_rfl) (by kernel_rfl) (by kernel_rfl) (fun _ _ _ h => h) (Or.inl ⟨by rfl, by intro w' hSw; (try dsimp only at hSw); go_simp; try with_reducible rfl⟩) (by assumption) ?_
                simp only [List.setIfInBounds_toArray, List.set_cons_zero, List.set_cons_succ]
                refine take_at (i := 3) (d := 81) (v := ?_) rfl rfl (by kernel_rfl) (by kernel_rfl) (by kernel_rfl) (fun _ _ _ h => h) (Or.inl ⟨by rfl, by intro w' hSw; (try dsimp only at hSw); go_simp; try with_reducible rfl⟩) (by assumption) ?_
                simp only [List.setIfInBounds_toArray, List.set_cons_zero, List.set_cons_succ]
                refine take_at (i := 4) (d := 82) (v := ?_) rfl rfl (by kernel_rfl) (by kernel_rfl) (by kernel_rfl) (fun _ _ _ h => h) (Or.inl ⟨by rfl, by intro w' hSw; (try dsimp only at hSw); go_simp; try with_reducible rfl⟩) (by assumption) ?_
                simp only [List.setIfInBounds_toArray, List.set_cons_zero, List.set_cons_succ]
                refine take_at (i := 5) (d := 83) (v := ?_) rfl rfl (by kernel_rfl) (by kernel_rfl) (by kernel_rfl) (fun _ _ _ h => h) (Or.inl ⟨by rfl, by intro w' hSw; (try dsimp only at hSw); go_simp; try with_reducible rfl⟩) (by assumption) ?_
                simp only [List.setIfInBounds_toArray, List.set_cons_zero, List.set_cons_succ]
                refine take_at (i := 6) (d := 84) (v := ?_) rfl rfl (by kernel_rfl) (by kernel_rfl) (by kernel_rfl) (fun _ _ _ h => h) (Or.inl ⟨by rfl, by intro w' hSw; (try dsimp only at hSw); go_simp; try with_reducible rfl⟩) (by assumption) ?_
                simp only [List.setIfInBounds_toArray, List.set_cons_zero, List.set_cons_succ]
                refine take_at (i := 7) (d := 85) (v := undef) rfl rfl (by kernel_rfl) (by kernel_rfl) (by kernel_rfl) (fun _ _ _ h => h) (Or.inr ⟨by rfl, rfl⟩) (by assumption) ?_
                simp only [List.setIfInBounds_toArray, List.set_cons_zero, List.set_cons_succ]
                refine take_at (i := 8) (d := 86) (v := undef) rfl rfl (by kernel_rfl) (by kernel_rfl) (by kernel_rfl) (fun _ _ _ h => h) (Or.inr ⟨by rfl, rfl⟩) (by assumption) ?_
                simp only [List.setIfInBounds_toArray, List.set_cons_zero, List.set_cons_succ]
                refine take_at (i := 9) (d := 87) (v := undef) rfl rfl (by kernel_rfl) (by kernel_rfl) (by kernel_rfl) (fun _ _ _ h => h) (Or.inr ⟨by rfl, rfl⟩) (by assumption) ?_
                simp only [List.setIfInBounds_toArray, List.set_cons_zero, List.set_cons_succ]
                refine take_at (i := 10) (d := 88) (v := undef) rfl rfl (by kernel_rfl) (by kernel_rfl) (by kernel_rfl) (fun _ _ _ h => h) (Or.inr ⟨by rfl, rfl⟩) (by assumption) ?_
                simp only [List.setIfInBounds_toArray, List.set_cons_zero, List.set_cons_succ]
                refine take_at (i := 11) (d := 89) (v := undef) rfl rfl (by kernel_rfl) (by kernel_rfl) (by kernel_rfl) (fun _ _ _ h => h) (Or.inr ⟨by rfl, rfl⟩) (by assumption) ?_
                simp only [List.setIfInBounds_toArray, List.set_cons_zero, List.set_cons_succ]
                refine take_at (i := 12) (d := 90) (v := undef) rfl rfl (by kernel_rfl) (by kernel_rfl) (by kernel_rfl) (fun _ _ _ h => h) (Or.inr ⟨by rfl, rfl⟩) (by assumption) ?_
                simp only [List.setIfInBounds_toArray, List.set_cons_zero, List.set_cons_succ]
                refine take_at (i := 13) (d := 91) (v := undef) rfl rfl (by kernel_rfl) (by kernel_rfl) (by kernel_rfl) (fun _ _ _ h => h) (Or.inr ⟨by rfl, rfl⟩) (by assumption) ?_
                simp only [List.setIfInBounds_toArray, List.set_cons_zero, List.set_cons_succ]
                refine take_at (i := 14) (d := 92) (v := undef) rfl rfl (by kernel_rfl) (by kernel_rfl) (by kernel_rfl) (fun _ _ _ h => h) (Or.inr ⟨by rfl, rfl⟩) (by assumption) ?_
                simp only [List.setIfInBounds_toArray, List.set_cons_zero, List.set_cons_succ]
                refine take_at (i := 15) (d := 93) (v := undef) rfl rfl (by kernel_rfl) (by kernel_rfl) (by kernel_rfl) (fun _ _ _ h => h) (Or.inr ⟨by rfl, rfl⟩) (by assumption) ?_
                simp only [List.setIfInBounds_toArray, List.set_cons_zero, List.set_cons_succ]
                refine take_at (i := 16) (d := 94) (v := undef) rfl rfl (by kernel_rfl) (by kernel_rfl) (by kernel_rfl) (fun _ _ _ h => h) (Or.inr ⟨by rfl, rfl⟩) (by assumption) ?_
                simp only [List.setIfInBounds_toArray, List.set_cons_zero, List.set_cons_succ]
                refine take_at (i := 17) (d := 95) (v := undef) rfl rfl (by kernel_rfl) (by kernel_rfl) (by kernel_rfl) (fun _ _ _ h => h) (Or.inr ⟨by rfl, rfl⟩) (by assumption) ?_
                simp only [List.setIfInBounds_toArray, List.set_cons_zero, List.set_cons_succ]
                refine take_at (i := 18) (d := 96) (v := undef) rfl rfl (by kernel_rfl) (by kernel_rfl) (by kernel_rfl) (fun _ _ _ h => h) (Or.inr ⟨by rfl, rfl⟩) (by assumption) ?_
                simp only [List.setIfInBounds_toArray, List.set_cons_zero, List.set_cons_succ]
                refine take_at (i := 19) (d := 97) (v := undef) rfl rfl (by kernel_rfl) (by kernel_rfl) (by kernel_rfl) (fun _ _ _ h => h) (Or.inr ⟨by rfl, rfl⟩) (by assumption) ?_
                simp only [List.setIfInBounds_toArray, List.set_cons_zero, List.set_cons_succ]
                refine take_at (i := 20) (d := 98) (v := ?_) rfl rfl (by kernel_rfl) (by kernel_rfl) (by kernel_rfl) (fun _ _ _ h => h) (Or.inl ⟨by rfl, by intro w' hSw; (try dsimp only at hSw); go_simp; try with_reducible rfl⟩) (by assumption) ?_
                simp only [List.setIfInBounds_toArray, List.set_cons_zero, List.set_cons_succ]
                refine take_at (i := 21) (d := 99) (v := ?_) rfl rfl (by kernel_rfl) (by kernel_rfl) (by kernel_rfl) (fun _ _ _ h => h) (Or.inl ⟨by rfl, by intro w' hSw; (try dsimp only at hSw); go_simp; try with_reducible rfl⟩) (by assumption) ?_
                simp only [List.setIfInBounds_toArray, List.set_cons_zero, List.set_cons_succ]
                refine take_at (i := 22) (d := 100) (v := ?_) rfl rfl (by kernel_rfl) (by kernel_rfl) (by kernel_rfl) (fun _ _ _ h => h) (Or.inl ⟨by rfl, by intro w' hSw; (try dsimp only at hSw); go_simp; try with_reducible rfl⟩) (by assumption) ?_
                simp only [List.setIfInBounds_toArray, List.set_cons_zero, List.set_cons_succ]
                refine take_at (i := 23) (d := 101) (v := ?_) rfl rfl (by kernel_rfl) (by kernel_rfl) (by kernel_rfl) (fun _ _ _ h => h) (Or.inl ⟨by rfl, by intro w' hSw; (try dsimp only at hSw); go_simp; try with_reducible rfl⟩) (by assumption) ?_
                simp only [List.setIfInBounds_toArray, List.set_cons_zero, List.set_cons_succ]
                refine take_at (i := 24) (d := 102) (v := ?_) rfl rfl (by kernel_rfl) (by kernel_rfl) (by kernel_rfl) (fun _ _ _ h => h) (Or.inl ⟨by rfl, by intro w' hSw; (try dsimp only at hSw); go_simp; try with_reducible rfl⟩) (by assumption) ?_
                simp only [List.setIfInBounds_toArray, List.set_cons_zero, List.set_cons_succ]
                refine take_at (i := 25) (d := 103) (v := ?_) rfl rfl (by kernel_rfl) (by kernel_rfl) (by kernel_rfl) (fun _ _ _ h => h) (Or.inl ⟨by rfl, by intro w' hSw; (try dsimp only at hSw); go_simp; try with_reducible rfl⟩) (by assumption) ?_
                simp only [List.setIfInBounds_toArray, List.set_cons_zero, List.set_cons_succ]
                refine take_at (i := 26) (d := 104) (v := ?_) rfl rfl (by kernel_rfl) (by kernel_rfl) (by kernel_rfl) (fun _ _ _ h => h) (Or.inl ⟨by rfl, by intro w' hSw; (try dsimp only at hSw); go_simp; try with_reducible rfl⟩) (by assumption) ?_
                simp only [List.setIfInBounds_toArray, List.set_cons_zero, List.set_cons_succ]
                refine take_at (i := 27) (d := 105) (v := ?_) rfl rfl (by kernel_rfl) (by kernel_rfl) (by kernel_rfl) (fun _ _ _ h => h) (Or.inl ⟨by rfl, by intro w' hSw; (try dsimp only at hSw); go_simp; try with_reducible rfl⟩) (by assumption) ?_
                simp only [List.setIfInBounds_toArray, List.set_cons_zero, List.set_cons_succ]
                refine take_at (i := 28) (d := 106) (v := ?_) rfl rfl (by kernel_rfl) (by kernel_rfl) (by kernel_rfl) (fun _ _ _ h => h) (Or.inl ⟨by rfl, by intro w' hSw; (try dsimp only at hSw); go_simp; try with_reducible rfl⟩) (by assumption) ?_
                simp only [List.setIfInBounds_toArray, List.set_cons_zero, List.set_cons_succ]
                refine take_at (i := 29) (d := 107) (v := ?_) rfl rfl (by kernel_rfl) (by kernel_rfl) (by kernel_rfl) (fun _ _ _ h => h) (Or.inl ⟨by rfl, by intro w' hSw; (try dsimp only at hSw); go_simp; try with_reducible rfl⟩) (by assumption) ?_
                simp only [List.setIfInBounds_toArray, List.set_cons_zero, List.set_cons_succ]
                refine take_at (i := 31) (d := 109) (v := ?_) rfl rfl (by kernel_rfl) (by kernel_rfl) (by kernel_rfl) (fun _ _ _ h => h) (Or.inl ⟨by rfl, by intro w' hSw; (try dsimp only at hSw); go_simp; try with_reducible rfl⟩) (by assumption) ?_
                simp only [List.setIfInBounds_toArray, List.set_cons_zero, List.set_cons_succ]
                refine take_at (i := 32) (d := 110) (v := ?_) rfl rfl (by kernel_rfl) (by kernel_rfl) (by kernel_rfl) (fun _ _ _ h => h) (Or.inl ⟨by rfl, by intro w' hSw; (try dsimp only at hSw); go_simp; try with_reducible rfl⟩) (by assumption) ?_
                simp only [List.setIfInBounds_toArray, List.set_cons_zero, List.set_cons_succ]
                refine take_at (i := 33) (d := 111) (v := ?_) rfl rfl (by kernel_rfl) (by kernel_rfl) (by kernel_rfl) (fun _ _ _ h => h) (Or.inl ⟨by rfl, by intro w' hSw; (try dsimp only at hSw); go_simp; try with_reducible rfl⟩) (by assumption) ?_
                simp only [List.setIfInBounds_toArray, List.set_cons_zero, List.set_cons_succ]
                refine take_at (i := 34) (d := 112) (v := ?_) rfl rfl (by kernel_rfl) (by kernel_rfl) (by kernel_rfl) (fun _ _ _ h => h) (Or.inl ⟨by rfl, by intro w' hSw; (try dsimp only at hSw); go_simp; try with_reducible rfl⟩) (by assumption) ?_
                simp only [List.setIfInBounds_toArray, List.set_cons_zero, List.set_cons_succ]
                refine take_at (i := 35) (d := 113) (v := ?_) rfl rfl (by kernel_rfl) (by kernel_rfl) (by kernel_rfl) (fun _ _ _ h => h) (Or.inl ⟨by rfl, by intro w' hSw; (try dsimp only at hSw); go_simp; try with_reducible rfl⟩) (by assumption) ?_
                simp only [List.setIfInBounds_toArray, List.set_cons_zero, List.set_cons_succ]
                refine wpAnyH_ready (rs := [30]) (by kernel_rfl) (by simp) ?_
                refine AllReadyH.cons rfl (fun K hK => ?_) AllReadyH.nil
                go_simp
                go_at_call 42
                refine (HD.out.drew.bytes _ HA.out).mono ?_
                rintro e w7 ⟨ao7, cap7, rfl, hi7, hb7, hd7⟩
                go_wp2_with fail
                refine hK.out _ _ ?_ (fun hHeld => ?_)
                · exact HCC.out w7 (HB56.out _ hb7)
                clear hK K
                try simp only [Act.put, List.getElem_toArray, List.getElem_cons_succ, List.getElem_cons_zero]
                try simp only [List.setIfInBounds_toArray, List.set_cons_zero, List.set_cons_succ]
                refine wpAnyH_ready (rs := [36]) (by kernel_rfl) (by simp) ?_
                refine AllReadyH.cons rfl (fun K hK => ?_) AllReadyH.nil
                go_simp
                go_at_call 38
                refine (beq_self ao7 o.b.ao o.b.zs _ _ _ hi7 (HI.out _ (HB56.out _ hb7)) HFI.out).mono ?_
                rintro e w8 ⟨rfl, rfl⟩
                go_wp2_with fail
                refine hK.out _ _ ?_ (fun hHeld => ?_)
                · exact HCC.out w7 (HB56.out _ hb7)
                clear hK K
                try simp only [Act.put, List.getElem_toArray, List.getElem_cons_succ, List.getElem_cons_zero]
                try simp only [List.setIfInBounds_toArray, List.set_cons_zero, List.set_cons_succ]
                refine take_at (i := 37) (d := 115) (v := ?_) rfl rfl (by kernel_rfl) (by kernel_rfl) (by kernel_rfl) (fun _ _ _ h => h) (Or.inl ⟨by rfl, by intro w' hSw; (try dsimp only at hSw); go_simp; try with_reducible rfl⟩) (by assumption) ?_
                simp only [List.setIfInBounds_toArray, List.set_cons_zero, List.set_cons_succ]
                refine take_at (i := 38) (d := 116) (v := ?_) rfl rfl (by kernel_rfl) (by kernel_rfl) (by kernel_rfl) (fun _ _ _ h => h) (Or.inl ⟨by rfl, by intro w' hSw; (try dsimp only at hSw); go_simp; try with_reducible rfl⟩) (by assumption) ?_
                simp only [List.setIfInBounds_toArray, List.set_cons_zero, List.set_cons_succ]
                refine take_at (i := 39) (d := 117) (v := ?_) rfl rfl (by kernel_rfl) (by kernel_rfl) (by kernel_rfl) (fun _ _ _ h => h) (Or.inl ⟨by rfl, by intro w' hSw; (try dsimp only at hSw); go_simp; try with_reducible rfl⟩) (by assumption) ?_
                simp only [List.setIfInBounds_toArray, List.set_cons_zero, List.set_cons_succ]
                refine wpAnyH_done (by kernel_rfl) ?_ _
                all_goals
                  go_wp2
                  go_roundw
                  case rel => exact ⟨j + 1, by omega, by go_num, by rw [HOS.out]; exact hd7⟩
                  case measure => simp [intOf]; omega
            · obtain rfl : j = k := by omega
              rw [List.drop_of_length_le (by rw [HN.out]; exact Nat.le_refl _)] at hD
              have HD2 : Hid (D1 w5 wr pd [] 0) := Lib.hid hD
              clear hD HD hlt
              go_wp2_with fail
              refine (first4_any wr).mono ?_
              rintro e w7 ⟨rfl, hb7⟩
              have HD7 := Lib.hid (HD2.out.below hb7)
              have HB7 := Lib.hid (HB56.out _ HD7.out.base)
              clear hb7 HD2
              go_wp2_with fail
              refine (HD7.out.ende).mono ?_
              rintro e w8 ⟨rfl, rfl⟩
              rw [show decEnd [] 0 = 0 from rfl]
              go_wp2_with fail
              refine (HD7.out.left).mono ?_
              rintro e w8 ⟨rfl, rfl⟩
              go_wp2
              go_ret
              exact ⟨rfl, HB7.out⟩
        · have he' : (e1 != 0) = true := by simp [he]
          rw [show doneB bs e1 = [] by simp [doneB, he]]
          clear he HI5
          go_wp2_with fail
          refine (first4 W _ HB5.out).mono ?_
          rintro e w6 ⟨rfl, hb6⟩
          go_wp2
          go_ret
          exact ⟨rfl, hb6⟩
  · have hf' : fewB (rs.map (fun o => o.b.zs.length)) 200 200000 = false := by simpa using hf
    clear hf
    refine HFW.out.mono ?_
    rintro e w4 ⟨rfl, rfl⟩
    go_wp2_with (go_at_call 19; refine (first4 W _ HB3.out).mono ?_; rintro e w8 ⟨rfl, hb⟩)
    go_ret
    exact ⟨rfl, hb⟩

theorem walk_wireBack (W : World) (ao : Option Addr) (rs : List WOp) (n cap : Nat) (hn : rs.length = n) (h : OpsAt W ao rs) (hcap : n ≤ cap) (hcm : cap ≤ maxLen) :
    Calls Try.prog 12 #[.slice ao n cap] W fun e w' => e = .returned (.bool true) ∧ Below W.heap.size W w' := wback_core W ao rs n cap hn h hcap hcm

/-! ### The row's step for WireBack: the frame. -/
theorem wireBack_own : ownKnob Try.prog.godebug = none := by kernel_rfl
theorem wireBack_laidOut : laidOutB Try.prog = true := by kernel_rfl
set_option maxRecDepth 100000 in
theorem wireBack_lifted (os : Os) (started : os.Started) (H : Type) (enc : TypeId × Value → H) :
    ReturnsInHanded {} Try.checked os 12 .any (Rows.wireBackSpec.pre6 enc Try.prog Try.f12 Rows.wireBackRow.domain false) (Rows.wireBackSpec.post enc Try.prog Try.f12 false true false false) := by
  refine returnsInHanded_of_change (C := Try.checked) wireBack_own started (by kernel_rfl) Try.func12
    (ChangeSpec.witness6 (enc := enc) (C := Try.checked) false ⟨#[], #[.slice none 0 0], []⟩ 8 (by kernel_rfl) (by kernel_rfl) (by kernel_rfl) (by kernel_rfl)) ?_
  intro W base args ds gs before hval0 hW hcnd _
  have hval : ∀ (j : Nat) t v, Try.f12.params[j]? = some t → args[j]? = some v → Value.okWide Try.prog W .any base t v := hval0
  have hW' := hW
  obtain ⟨p, q, hA0, hV, rfl, hfz, hnd⟩ := hW
  have hA : DataW.TrodAll enc Try.prog W 0 (fun _ => true) true Try.f12.params.toList args.toList ds p := hA0
  rw [Try.params12] at hA hval
  obtain ⟨v0, vs0, d0, ds0, p0, q0, hargs, rfl, rfl, h0, r0⟩ := trodAll_cons hA
  obtain ⟨rfl, rfl, rfl⟩ := trodAll_nil r0
  obtain rfl : args = #[v0] := by cases args; simp_all
  obtain ⟨rfl, rfl⟩ := trodVars_none hV
  have k0 := h0
  have lt0 : ∀ x ∈ p0, x.block < W.heap.size := by obtain ⟨m, hm⟩ := k0; exact DataW.trod_lt m _ _ _ hm
  obtain ⟨ao0, len0, cap0, rfl⟩ := okWide_slice Try.underlying40 (hval 0 40 v0 rfl rfl)
  obtain ⟨z0, hl0, w0, hc0, wf0⟩ := ops4_of h0
  clear hA0 hval0
  refine (walk_wireBack W ao0 z0 len0 cap0 hl0.symm w0 hc0 wf0).mono fun e W' ⟨he, bel⟩ => ?_
  subst he
  exact ⟨_, rfl, _, _, _, [], _, [], hW', trodAll_mk1 (shut_bool Try.underlying4 _), (trodAll_cons_mk (Below.trod wireBack_laidOut (by kernel_rfl) (of_decide_eq_true (by kernel_rfl)) k0 bel lt0) trodAll_mk0), rfl, bel.frame _, fun h => by cases h⟩

theorem wireBack_over : Rows.wireBackRow.holds Try.pinned (OpenSpec.ofChange Rows.wireBackSpec) :=
  OpenClaim.holds_of_wide 12 Try.f12 rfl rfl rfl rfl rfl rfl rfl ⟨rfl, rfl, rfl, rfl, rfl⟩ rfl rfl rfl rfl rfl (by kernel_rfl) Try.func12 (by kernel_rfl)
    (of_decide_eq_true (by kernel_rfl)) (by unfold Func.isWrapper; first | (rw [if_pos (by decide +kernel)]; kernel_rfl) | (rw [if_neg (by decide +kernel)]; exact ⟨rfl, rfl⟩))
    (fun os started H enc _ => wireBack_lifted os started H enc)

/-- The statement. -/
theorem wireBack_holds : Rows.WireBackSaid := wireBack_over
#print axioms wireBack_holds
end Go.Proofs.Ytnohdbhkepdjbaa
