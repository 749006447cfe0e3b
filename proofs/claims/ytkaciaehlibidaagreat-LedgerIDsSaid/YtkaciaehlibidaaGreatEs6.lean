/- Package escrow: Claim, Refund. -/
import Derived.Test.YtkaciaehlibidaaGreatEs5
import Derived.Test.YtkaciaehlibidaaGreatLgD
namespace Go.Proofs.YtkaciaehlibidaaGreat
open Go.RowKit
set_option linter.unusedVariables false
set_option linter.unusedSimpArgs false

section
variable {w w' : World} {Sp : Nat → Prop} {B tb q n m : Nat} {b : Nat → Nat → Int} {l : List XR} {v : Value} {T : Nat → Int}
theorem TPost.refl (h : BK w Sp B tb q n m b l v) (ht : TabOk w tb) (hb : Below w.heap.size w w') : TPost w Sp B tb q n m v b l w' :=
  ⟨ht.below hb, v, h.below hb, Keeps.of_below hb, fun g hg => Or.inl hg⟩
theorem idB_at {l : List XR} {id : Int} (h : idB l id = true) : ∃ k : Nat, id = (k : Int) ∧ k < l.length := by
  unfold idB at h
  rw [decide_eq_true_eq] at h
  exact ⟨id.toNat, by omega, by omega⟩
theorem atX_at {l : List XR} {k : Nat} (h : k < l.length) : atX l (k : Int) = l[k] := by unfold atX; simp [List.getD, h]
/-- The table is no block of the book's. -/
theorem BK.tabN (h : BK w Sp B tb q n m b l v) (ht : TabOk w tb) (hs : ¬ Sp tb) : ¬ fpK Sp B v tb := by
  obtain ⟨cs, f, h3⟩ := ht.ty
  rintro (e | e | e)
  · have h4 := h.box
    rw [← e, h3] at h4
    exact absurd (cells_type h4) (by decide)
  · obtain ⟨cur, h4⟩ := row_ty h.row e
    rw [h3] at h4
    exact absurd (cells_type h4) (by decide)
  · exact hs e
/-- The table turned. -/
theorem BK.turn (h : BK w Sp B tb q n m b l v) (ht : TabOk w tb) (hs : ¬ Sp tb) (hk : Keeps (fun i => i = tb) w w') : BK w' Sp B tb q n m b l v :=
  h.keep hk (fun k hk e => h.tabN ht hs (e ▸ hk))

set_option maxRecDepth 100000 in
set_option maxHeartbeats 4000000 in
theorem book_claim (h : BK w Sp B tb q n m b l v) (hI : BInv n m b l T) (ht : TabOk w tb) (hs : ¬ Sp tb) (who id : Int) (sec : ByteArray) (ck : Int) :
    Calls Tryz.prog 64 #[.pointer (some ⟨B, 0, none⟩), .int .i64 who, .int .i64 id, .string sec, .int .i64 ck] w fun e w' =>
      e = .returned (.int .i64 (claimE n m b l who id sec ck)) ∧ TPost w Sp B tb q n m v (claimB n m b l who id sec ck) (claimL n m b l who id sec ck) w' := by
  have H := Lib.hid h
  have HG := Lib.hid hI.good
  have HT := Lib.hid ht
  have HTS := Lib.hid hs
  have HHS := Lib.hid (book_idB h id)
  have HE : Hid (claimE n m b l who id sec ck = if idB l id = true then (if who = (atX l id).t then (if (atX l id).s = 0 then (if tickB ck = true ∧ ck < (atX l id).d then (if sec.size = 32 then (if shaS sec = (atX l id).h then giveE n m b (atX l id).t (atX l id).a (atX l id).n else 10) else 2) else 11) else 9) else 14) else 8) := Lib.hid rfl
  have HBL : Hid (claimB n m b l who id sec ck = if claimE n m b l who id sec ck = 0 then giveN n m b (atX l id).t (atX l id).a (atX l id).n else b) := Lib.hid rfl
  have HLL : Hid (claimL n m b l who id sec ck = if claimE n m b l who id sec ck = 0 then l.set id.toNat ((atX l id).close 1 sec) else l) := Lib.hid rfl
  generalize claimE n m b l who id sec ck = E at *
  generalize claimB n m b l who id sec ck = B' at *
  generalize claimL n m b l who id sec ck = L' at *
  have HNO : Hid (∀ (k : Int) (wx : World), E = k → k ≠ 0 → TPost w Sp B tb q n m v b l wx → (Ending.returned (.int .i64 k) = Ending.returned (.int .i64 E) ∧ TPost w Sp B tb q n m v B' L' wx)) := Lib.hid (fun k wx he hk hw => by
    rw [he] at HBL HLL
    refine ⟨by rw [he], ?_⟩
    rw [HBL.out, HLL.out, if_neg hk, if_neg hk]
    exact hw)
  have HRF := Lib.hid (TPost.refl H.out ht (Below.refl _ _))
  have hI2 := hI
  clear h hI ht hs hI2
  by_cases hid : idB l id = true
  case neg =>
    have hi : idB l id = false := by simpa using hid
    rw [hi] at HHS
    have HQ := Lib.hid (HNO.out 8 w (by rw [HE.out, if_neg hid]) (by omega) HRF.out)
    clear hid hi
    go_enter Tryz.func64, Tryz.ntmps64
    go_wp2_with fail
    refine HHS.out.mono ?_
    rintro e w1 ⟨rfl, rfl⟩
    go_wp2
    go_ret
    exact HQ.out
  rw [if_pos hid] at HE
  rw [hid] at HHS
  obtain ⟨k, rfl, hk⟩ := idB_at hid
  rw [atX_at hk] at HE HBL HLL
  rw [Int.toNat_natCast] at HLL
  obtain ⟨ao, c, rfl, _, _⟩ := H.out.shape
  obtain ⟨g, rfl, hc, _⟩ := H.out.esc k hk
  obtain ⟨c0, _, c2, _⟩ := H.out.cells
  have HCZ := Lib.hid (fun (wx : World) (hx : BK wx Sp B tb q n m b l (.slice (some ⟨g, 0, none⟩) l.length c)) => book_closes hx HG.out hk l[k].t 1 sec)
  have HES := Lib.hid (fun (wx : World) (hx : BK wx Sp B tb q n m b l (.slice (some ⟨g, 0, none⟩) l.length c)) => hx.esc k hk)
  have HCB : Hid (closeB n m b l[k] l[k].t = if giveE n m b l[k].t l[k].a l[k].n = 0 then giveN n m b l[k].t l[k].a l[k].n else b) := Lib.hid rfl
  have HCL : Hid (closeL n m b l k l[k] l[k].t 1 sec = if giveE n m b l[k].t l[k].a l[k].n = 0 then l.set k (l[k].close 1 sec) else l) := Lib.hid rfl
  have hkl : (k : Int) < (l.length : Int) := by omega
  have HKL := Lib.hid hk
  clear hid
  generalize l[k] = x at *
  have e1 := hc 1 (by omega)
  have e4 := hc 4 (by omega)
  have e5 := hc 5 (by omega)
  have e6 := hc 6 (by omega)
  simp only [XR.cells, List.getElem?_toArray, List.getElem?_cons_zero, List.getElem?_cons_succ, Nat.add_zero] at e1 e4 e5 e6
  clear hc
  go_enter Tryz.func64, Tryz.ntmps64
  go_wp2_with fail
  refine HHS.out.mono ?_
  rintro e w1 ⟨rfl, rfl⟩
  rename World => w
  by_cases hw : who = x.t
  case neg =>
    have hb : (who != x.t) = true := by simp [hw]
    have HQ := Lib.hid (HNO.out 14 w (by rw [HE.out, if_neg hw]) (by omega) HRF.out)
    clear hw
    go_wp2
    go_ret
    exact HQ.out
  rw [if_pos hw] at HE
  have hbw : (who != x.t) = false := by simp [hw]
  clear hw
  by_cases hst : x.s = 0
  case neg =>
    have hb : (x.s != 0) = true := by simp [hst]
    have HQ := Lib.hid (HNO.out 9 w (by rw [HE.out, if_neg hst]) (by omega) HRF.out)
    clear hst
    go_wp2
    go_ret
    exact HQ.out
  rw [if_pos hst] at HE
  have hbs : (x.s != 0) = false := by simp [hst]
  clear hst
  go_wp2_with fail
  refine (tick_any ck w).mono ?_
  rintro e w1 ⟨rfl, rfl⟩
  cases htk : tickB ck
  case false =>
    have HQ := Lib.hid (HNO.out 11 w (by rw [HE.out, if_neg (fun h => by rw [htk] at h; exact absurd h.1 (by decide))]) (by omega) HRF.out)
    clear htk
    go_wp2
    go_ret
    exact HQ.out
  by_cases hdl : x.d ≤ ck
  · have HQ := Lib.hid (HNO.out 11 w (by rw [HE.out, if_neg (fun h => by omega)]) (by omega) HRF.out)
    clear htk
    go_wp2
    go_ret
    exact HQ.out
  rw [if_pos ⟨htk, by omega⟩] at HE
  clear htk
  by_cases hsz : sec.size = 32
  case neg =>
    have hb : ((sec.size : Int) != 32) = true := by simp; omega
    have HQ := Lib.hid (HNO.out 2 w (by rw [HE.out, if_neg hsz]) (by omega) HRF.out)
    clear hsz
    go_wp2
    go_ret
    exact HQ.out
  rw [if_pos hsz] at HE
  have hbz : ((sec.size : Int) != 32) = false := by simp; omega
  have HSZ := Lib.hid hsz
  clear hsz
  have kc := fun (w : World) (s : ByteArray) => Lib.run_convert_string_bytes (P := Tryz.prog) w 9 62 5 s Tryz.underlying9 Tryz.underlying62 Tryz.underlying5
  go_upto_region 12 with fail
  clear hbz hbs hbw hdl
  refine wp_region_held_drew (S := fun w' => w'.cell? ⟨B, 0, none⟩ = some (.pointer (some ⟨tb, 0, none⟩)) ∧ w'.cell? ⟨g, k * 8 + 6, none⟩ = some (.string x.h)) (by kernel_rfl) ?_ (fun hHeld => ?_)
  · exact ⟨c0, e6⟩
  refine take_at (i := 0) (d := 52) (v := ?_) rfl rfl (by kernel_rfl) (by kernel_rfl) (by kernel_rfl) (fun _ _ _ h => h) (Or.inl ⟨by rfl, by intro w' hSw; (try dsimp only at hSw); go_simp; try with_reducible rfl⟩) (by assumption) ?_
  simp only [List.setIfInBounds_toArray, List.set_cons_zero, List.set_cons_succ]
  refine take_at (i := 1) (d := 53) (v := ?_) rfl rfl (by kernel_rfl) (by kernel_rfl) (by kernel_rfl) (fun _ _ _ h => h) (Or.inl ⟨by rfl, by intro w' hSw; (try dsimp only at hSw); go_simp; try with_reducible rfl⟩) (by assumption) ?_
  simp only [List.setIfInBounds_toArray, List.set_cons_zero, List.set_cons_succ]
  refine take_at (i := 2) (d := 54) (v := ?_) rfl rfl (by kernel_rfl) (by kernel_rfl) (by kernel_rfl) (fun _ _ _ h => h) (Or.inl ⟨by rfl, by intro w' hSw; (try dsimp only at hSw); go_simp; try with_reducible rfl⟩) (by assumption) ?_
  simp only [List.setIfInBounds_toArray, List.set_cons_zero, List.set_cons_succ]
  refine take_at (i := 3) (d := 55) (v := ?_) rfl rfl (by kernel_rfl) (by kernel_rfl) (by kernel_rfl) (fun _ _ _ h => h) (Or.inl ⟨by rfl, by intro w' hSw; (try dsimp only at hSw); go_simp; try with_reducible rfl⟩) (by assumption) ?_
  simp only [List.setIfInBounds_toArray, List.set_cons_zero, List.set_cons_succ]
  refine take_at (i := 4) (d := 56) (v := ?_) rfl rfl (by kernel_rfl) (by kernel_rfl) (by kernel_rfl) (fun _ _ _ h => h) (Or.inl ⟨by rfl, by intro w' hSw; (try dsimp only at hSw); go_simp; try with_reducible rfl⟩) (by assumption) ?_
  simp only [List.setIfInBounds_toArray, List.set_cons_zero, List.set_cons_succ]
  refine take_at (i := 8) (d := 60) (v := ?_) rfl rfl (by kernel_rfl) (by kernel_rfl) (by kernel_rfl) (fun _ _ _ h => h) (Or.inl ⟨by rfl, by intro w' hSw; (try dsimp only at hSw); go_simp; try with_reducible rfl⟩) (by assumption) ?_
  simp only [List.setIfInBounds_toArray, List.set_cons_zero, List.set_cons_succ]
  refine take_at (i := 9) (d := 61) (v := ?_) rfl rfl (by kernel_rfl) (by kernel_rfl) (by kernel_rfl) (fun _ _ _ h => h) (Or.inl ⟨by rfl, by intro w' hSw; (try dsimp only at hSw); go_simp; try with_reducible rfl⟩) (by assumption) ?_
  simp only [List.setIfInBounds_toArray, List.set_cons_zero, List.set_cons_succ]
  refine take_at (i := 10) (d := 62) (v := ?_) rfl rfl (by kernel_rfl) (by kernel_rfl) (by kernel_rfl) (fun _ _ _ h => h) (Or.inl ⟨by rfl, by intro w' hSw; (try dsimp only at hSw); go_simp; try with_reducible rfl⟩) (by assumption) ?_
  simp only [List.setIfInBounds_toArray, List.set_cons_zero, List.set_cons_succ]
  refine take_at (i := 11) (d := 63) (v := ?_) rfl rfl (by kernel_rfl) (by kernel_rfl) (by kernel_rfl) (fun _ _ _ h => h) (Or.inl ⟨by rfl, by intro w' hSw; (try dsimp only at hSw); go_simp; try with_reducible rfl⟩) (by assumption) ?_
  simp only [List.setIfInBounds_toArray, List.set_cons_zero, List.set_cons_succ]
  refine wpAnyH_ready (rs := [5]) (by kernel_rfl) (by simp) ?_
  refine AllReadyH.cons rfl (fun K hK => ?_) AllReadyH.nil
  go_simp
  have HB2 : Hid (Below w.heap.size w (Lib.bytesWorld w.drew 5 sec)) := Lib.hid (below_undrew (bytes_below w.drew 5 sec))
  have HI2 : Hid (IntsAt .u8 (Lib.bytesWorld w.drew 5 sec) (some ⟨w.heap.size, 0, none⟩) (strNums sec)) := Lib.hid (bytes_ints w.drew 5 sec)
  obtain ⟨w2, hw2⟩ : ∃ w2, w2 = Lib.bytesWorld w.drew 5 sec := ⟨_, rfl⟩
  rw [← hw2] at HB2 HI2
  rw [← hw2]
  clear hw2
  obtain ⟨N0, hN0⟩ : ∃ N0, N0 = w.heap.size := ⟨_, rfl⟩
  have HN0 := Lib.hid hN0
  have HT2 := Lib.hid (HT.out.below HB2.out)
  have c02 := (World.cell?_of_block (a := ⟨B, 0, none⟩) (HB2.out.block B (blk_lt H.out.box))).trans c0
  have e62 := (World.cell?_of_block (a := ⟨g, k * 8 + 6, none⟩) (HB2.out.block g (H.out.row.lt g rfl).2)).trans e6
  try rw [← hN0]
  clear hN0
  go_wp2_with fail
  refine hK.out _ _ ?_ (fun hHeld => ?_)
  · exact ⟨c02, e62⟩
  clear hK K
  try simp only [Act.put, List.getElem_toArray, List.getElem_cons_succ, List.getElem_cons_zero]
  try simp only [List.setIfInBounds_toArray, List.set_cons_zero, List.set_cons_succ]
  refine wpAnyH_ready (rs := [6]) (by kernel_rfl) (by simp) ?_
  refine AllReadyH.cons rfl (fun K hK => ?_) AllReadyH.nil
  go_simp
  refine (one_any tb (some ⟨N0, 0, none⟩) (strNums sec) sec.size _ w2 HT2.out (strNums_length sec) (by rw [HN0.out]; exact HI2.out) (strNums_in sec) (Or.inr (fun a ha => by cases ha; have := HT.out.lt; rw [HN0.out]; show w.heap.size ≠ tb; omega)) (by have := HSZ.out; omega)).mono ?_
  rintro e w3 ⟨g3, c3, rfl, ht3, ho3, hl3, hk3, hg3⟩
  have HT3 := Lib.hid ht3
  have H3 : Hid (BK w3 Sp B tb q n m b l (.slice (some ⟨g, 0, none⟩) l.length c)) := Lib.hid ((H.out.below HB2.out).turn HT2.out HTS.out hk3)
  have HK3 : Hid (Keeps (fun i => fpK Sp B (.slice (some ⟨g, 0, none⟩) l.length c) i ∨ i = tb) w w3) := Lib.hid ((Keeps.of_below HB2.out).trans (hk3.mono (fun i _ h => Or.inr h)) (fun _ h => Or.inl h))
  have HP3 : Hid (TPost w Sp B tb q n m (.slice (some ⟨g, 0, none⟩) l.length c) b l w3) := Lib.hid ⟨ht3, _, H3.out, HK3.out, fun g hg => Or.inl hg⟩
  have c03 := H3.out.cells.1
  obtain ⟨_, hge3, hc3, _⟩ := HES.out w3 H3.out
  cases hge3
  have e63 := hc3 6 (by omega)
  simp only [XR.cells, List.getElem?_toArray, List.getElem?_cons_zero, List.getElem?_cons_succ] at e63
  have hcv := fun (wx : World) (hx : wx = w3 ∨ wx = w3.drew) => conv_u8 (P := Tryz.prog) (w := wx) c3 62 5 9 Tryz.underlying62 Tryz.underlying5 Tryz.underlying9 (show IntsAt .u8 wx (some ⟨g3, 0, none⟩) (shaF (strNums sec)) by rcases hx with rfl | rfl <;> exact (owns_at ho3).2.1) hl3
  have hcv1 := hcv _ (Or.inl rfl)
  have hcv2 := hcv _ (Or.inr rfl)
  have hsS : strOfNums (shaF (strNums sec)) = shaS sec := rfl
  rw [hsS] at hcv1 hcv2
  clear hcv ht3 ho3 hl3 hk3 hg3 hc3
  dsimp only
  go_wp2_with fail
  refine hK.out _ _ ?_ (fun hHeld => ?_)
  · exact ⟨c03, e63⟩
  clear hK K
  try simp only [Act.put, List.getElem_toArray, List.getElem_cons_succ, List.getElem_cons_zero]
  try simp only [List.setIfInBounds_toArray, List.set_cons_zero, List.set_cons_succ]
  refine wpAnyH_ready (rs := [7]) (by kernel_rfl) (by simp) ?_
  refine AllReadyH.cons rfl (fun K hK => ?_) AllReadyH.nil
  go_simp
  skip
  go_wp2_with fail
  refine hK.out _ _ ?_ (fun hHeld => ?_)
  · exact ⟨c03, e63⟩
  clear hK K
  try simp only [Act.put, List.getElem_toArray, List.getElem_cons_succ, List.getElem_cons_zero]
  try simp only [List.setIfInBounds_toArray, List.set_cons_zero, List.set_cons_succ]
  refine take_at (i := 12) (d := 64) (v := ?_) rfl rfl (by kernel_rfl) (by kernel_rfl) (by kernel_rfl) (fun _ _ _ h => h) (Or.inl ⟨by rfl, by intro w' hSw; (try dsimp only at hSw); go_simp; try with_reducible rfl⟩) (by assumption) ?_
  simp only [List.setIfInBounds_toArray, List.set_cons_zero, List.set_cons_succ]
  refine take_at (i := 13) (d := 51) (v := ?_) rfl rfl (by kernel_rfl) (by kernel_rfl) (by kernel_rfl) (fun _ _ _ h => h) (Or.inl ⟨by rfl, by intro w' hSw; (try dsimp only at hSw); go_simp; try with_reducible rfl⟩) (by assumption) ?_
  simp only [List.setIfInBounds_toArray, List.set_cons_zero, List.set_cons_succ]
  refine wpAnyH_done (by kernel_rfl) ?_ _
  clear hcv1 hcv2 hHeld
  rename World => w3
  by_cases hh : shaS sec = x.h
  case neg =>
    have hb : ((shaS sec).toList == x.h.toList) = false := by rw [strEq]; simp [hh]
    rw [hb]
    have HQ := Lib.hid (HNO.out 10 w3 (by rw [HE.out, if_neg hh]) (by omega) HP3.out)
    clear hh
    go_wp2
    go_ret
    exact HQ.out
  rw [if_pos hh] at HE
  have hb : ((shaS sec).toList == x.h.toList) = true := by rw [strEq]; simp [hh]
  rw [hb]
  clear hh
  obtain ⟨_, hge3, hc3, _⟩ := HES.out w3 H3.out
  cases hge3
  have e13 := hc3 1 (by omega)
  simp only [XR.cells, List.getElem?_toArray, List.getElem?_cons_zero, List.getElem?_cons_succ] at e13
  clear hc3
  go_wp2_with fail
  refine (HCZ.out w3 H3.out).mono ?_
  rintro e w4 ⟨rfl, hp⟩
  have HP := Lib.hid hp
  clear hp
  have HF : Hid (TPost w Sp B tb q n m (.slice (some ⟨g, 0, none⟩) l.length c) B' L' w4) := Lib.hid (by
    obtain ⟨v', h4, hk4, hv4⟩ := HP.out
    rw [HCB.out, HCL.out] at h4
    rw [HBL.out, HLL.out, HE.out]
    refine ⟨tab_keep HT3.out hk4 (H3.out.tabN HT3.out HTS.out), v', h4, HK3.out.trans hk4 (fun i hi => Or.inl (Or.inl hi)), fun g' hg' => ?_⟩
    rcases hv4 g' hg' with h | h
    · exact Or.inl h
    · exact Or.inr (Nat.le_trans HK3.out.size h))
  rw [← HE.out]
  go_wp2
  go_ret
  exact ⟨rfl, HF.out⟩
set_option maxRecDepth 100000 in
set_option maxHeartbeats 4000000 in
theorem book_refund (h : BK w Sp B tb q n m b l v) (hI : BInv n m b l T) (ht : TabOk w tb) (hs : ¬ Sp tb) (who id : Int) (ck : Int) :
    Calls Tryz.prog 65 #[.pointer (some ⟨B, 0, none⟩), .int .i64 who, .int .i64 id, .int .i64 ck] w fun e w' =>
      e = .returned (.int .i64 (refundE n m b l who id ck)) ∧ TPost w Sp B tb q n m v (refundB n m b l who id ck) (refundL n m b l who id ck) w' := by
  have H := Lib.hid h
  have HG := Lib.hid hI.good
  have HT := Lib.hid ht
  have HTS := Lib.hid hs
  have HHS := Lib.hid (book_idB h id)
  have HE : Hid (refundE n m b l who id ck = if idB l id = true then (if who = (atX l id).f then (if (atX l id).s = 0 then (if tickB ck = true ∧ (atX l id).d ≤ ck then giveE n m b (atX l id).f (atX l id).a (atX l id).n else 11) else 9) else 14) else 8) := Lib.hid rfl
  have HBL : Hid (refundB n m b l who id ck = if refundE n m b l who id ck = 0 then giveN n m b (atX l id).f (atX l id).a (atX l id).n else b) := Lib.hid rfl
  have HLL : Hid (refundL n m b l who id ck = if refundE n m b l who id ck = 0 then l.set id.toNat ((atX l id).close 2 ⟨#[]⟩) else l) := Lib.hid rfl
  generalize refundE n m b l who id ck = E at *
  generalize refundB n m b l who id ck = B' at *
  generalize refundL n m b l who id ck = L' at *
  have HNO : Hid (∀ (k : Int) (wx : World), E = k → k ≠ 0 → TPost w Sp B tb q n m v b l wx → (Ending.returned (.int .i64 k) = Ending.returned (.int .i64 E) ∧ TPost w Sp B tb q n m v B' L' wx)) := Lib.hid (fun k wx he hk hw => by
    rw [he] at HBL HLL
    refine ⟨by rw [he], ?_⟩
    rw [HBL.out, HLL.out, if_neg hk, if_neg hk]
    exact hw)
  have HRF := Lib.hid (TPost.refl H.out ht (Below.refl _ _))
  have hI2 := hI
  clear h hI ht hs hI2
  by_cases hid : idB l id = true
  case neg =>
    have hi : idB l id = false := by simpa using hid
    rw [hi] at HHS
    have HQ := Lib.hid (HNO.out 8 w (by rw [HE.out, if_neg hid]) (by omega) HRF.out)
    clear hid hi
    go_enter Tryz.func65, Tryz.ntmps65
    go_wp2_with fail
    refine HHS.out.mono ?_
    rintro e w1 ⟨rfl, rfl⟩
    go_wp2
    go_ret
    exact HQ.out
  rw [if_pos hid] at HE
  rw [hid] at HHS
  obtain ⟨k, rfl, hk⟩ := idB_at hid
  rw [atX_at hk] at HE HBL HLL
  rw [Int.toNat_natCast] at HLL
  obtain ⟨ao, c, rfl, _, _⟩ := H.out.shape
  obtain ⟨g, rfl, hc, _⟩ := H.out.esc k hk
  obtain ⟨c0, _, c2, _⟩ := H.out.cells
  have HCZ := Lib.hid (book_closes H.out HG.out hk l[k].f 2 ⟨#[]⟩)
  have HCB : Hid (closeB n m b l[k] l[k].f = if giveE n m b l[k].f l[k].a l[k].n = 0 then giveN n m b l[k].f l[k].a l[k].n else b) := Lib.hid rfl
  have HCL : Hid (closeL n m b l k l[k] l[k].f 2 ⟨#[]⟩ = if giveE n m b l[k].f l[k].a l[k].n = 0 then l.set k (l[k].close 2 ⟨#[]⟩) else l) := Lib.hid rfl
  have hkl : (k : Int) < (l.length : Int) := by omega
  have HKL := Lib.hid hk
  clear hid
  generalize l[k] = x at *
  have e0 := hc 0 (by omega)
  have e4 := hc 4 (by omega)
  have e5 := hc 5 (by omega)
  simp only [XR.cells, List.getElem?_toArray, List.getElem?_cons_zero, List.getElem?_cons_succ, Nat.add_zero] at e0 e4 e5
  clear hc
  go_enter Tryz.func65, Tryz.ntmps65
  go_wp2_with fail
  refine HHS.out.mono ?_
  rintro e w1 ⟨rfl, rfl⟩
  rename World => w
  by_cases hw : who = x.f
  case neg =>
    have hb : (who != x.f) = true := by simp [hw]
    have HQ := Lib.hid (HNO.out 14 w (by rw [HE.out, if_neg hw]) (by omega) HRF.out)
    clear hw
    go_wp2
    go_ret
    exact HQ.out
  rw [if_pos hw] at HE
  have hbw : (who != x.f) = false := by simp [hw]
  clear hw
  by_cases hst : x.s = 0
  case neg =>
    have hb : (x.s != 0) = true := by simp [hst]
    have HQ := Lib.hid (HNO.out 9 w (by rw [HE.out, if_neg hst]) (by omega) HRF.out)
    clear hst
    go_wp2
    go_ret
    exact HQ.out
  rw [if_pos hst] at HE
  have hbs : (x.s != 0) = false := by simp [hst]
  clear hst
  go_wp2_with fail
  refine (tick_any ck w).mono ?_
  rintro e w1 ⟨rfl, rfl⟩
  cases htk : tickB ck
  case false =>
    have HQ := Lib.hid (HNO.out 11 w (by rw [HE.out, if_neg (fun h => by rw [htk] at h; exact absurd h.1 (by decide))]) (by omega) HRF.out)
    clear htk
    go_wp2
    go_ret
    exact HQ.out
  by_cases hdl : ck < x.d
  · have HQ := Lib.hid (HNO.out 11 w (by rw [HE.out, if_neg (fun h => by omega)]) (by omega) HRF.out)
    clear htk
    go_wp2
    go_ret
    exact HQ.out
  rw [if_pos ⟨htk, by omega⟩] at HE
  clear htk
  go_wp2_with fail
  refine HCZ.out.mono ?_
  rintro e w4 ⟨rfl, hp⟩
  have HP := Lib.hid hp
  clear hp
  have HF : Hid (TPost w Sp B tb q n m (.slice (some ⟨g, 0, none⟩) l.length c) B' L' w4) := Lib.hid (by
    obtain ⟨v', h4, hk4, hv4⟩ := HP.out
    rw [HCB.out, HCL.out] at h4
    rw [HBL.out, HLL.out, HE.out]
    exact ⟨tab_keep HT.out hk4 (H.out.tabN HT.out HTS.out), v', h4, hk4.mono (fun i _ hi => Or.inl hi), hv4⟩)
  rw [← HE.out]
  go_wp2
  go_ret
  exact ⟨rfl, HF.out⟩
end

end Go.Proofs.YtkaciaehlibidaaGreat
