/- Parts of the proof: Lsv Lx5. -/
import Derived.Test.YtkaciaehlibidaaGreatZ24
namespace Go.Proofs.YtkaciaehlibidaaGreat
open Go.RowKit
set_option linter.unusedVariables false
set_option linter.unusedSimpArgs false
theorem rqs_stayx {S : Nat → Prop} {W w : World} {n m : Nat} {E : Int} {s : LS} {T : Nat → Int} {X B q : Nat} {ro : Option Addr} {rs : List RQ} (h : RqsAt W ro rs) (hd : XL S W w n m E s T X B q) : ∀ w', Keeps S w w' → RqsAt w' ro rs := by
 intro w' hk
 rcases h with h | ⟨b, off, rfl, h2⟩
 · exact Or.inl h
 · refine Or.inr ⟨b, off, rfl, fun i hi j u hu => ?_⟩
   have c := h2 i hi j u hu
   have hb := World.block_lt_of_cell? W _ c
   have hb2 := hd.bel.size
   have h1 : w.cell? ⟨b, off + i * 8 + j, none⟩ = some u := (World.cell?_of_block (hd.bel.block b hb)).trans c
   exact (World.cell?_of_block (hk.block b (World.block_lt_of_cell? w _ h1) (fun hs => by have := hd.new b hs; dsimp only at hb; omega))).trans h1
theorem BY.of {W w : World} {tb : Nat} {zo : Option Addr} {zn zc : Nat} {zs : List Int} (hi : IntsAt .u8 W zo zs) (hb : Below W.heap.size W w) (ht : W.heap.size ≤ tb) (hl : zs.length = zn) (hc : zn ≤ zc ∧ zc ≤ maxLen) (hz : InB zs) (hf : zn ≤ 1000000) : BY w tb zo zn zc zs :=
 ⟨fun w' hk => hi.same (fun a ha hl2 => (hk.block a.block (Nat.lt_of_lt_of_le hl2 hb.size) (by omega)).trans (hb.block a.block hl2)), hl, hc, hz, hf⟩
theorem BY.new {w0 w : World} {tb : Nat} {zo : Option Addr} {zn zc : Nat} {zs : List Int} (hi : IntsAt .u8 w zo zs) (hn : ∀ a, zo = some a → w0.heap.size ≤ a.block) (ht : tb < w0.heap.size) (hl : zs.length = zn) (hc : zn ≤ zc ∧ zc ≤ maxLen) (hz : InB zs) (hf : zn ≤ 1000000) : BY w tb zo zn zc zs :=
 ⟨fun w' hk => hi.same (fun a ha hl2 => hk.block a.block hl2 (by have := hn a ha; omega)), hl, hc, hz, hf⟩
set_option maxRecDepth 100000 in
set_option maxHeartbeats 20000000 in
theorem saves_core (hone : OneLaw) (hload : XLoadLaw) (W : World) (ao : Option Addr) (bs : List ISl) (n cap : Nat) (E : Int) (hn : bs.length = n) (h : IntsList W ao bs) (hcap : n ≤ cap) (hcm : cap ≤ maxLen)
 (lo : Option Addr) (ls : List LO) (r lc : Nat) (hr : ls.length = r) (h2 : LosAt W lo ls) (hrc : r ≤ lc) (hrm : lc ≤ maxLen) (at_ : Int)
 (zo : Option Addr) (zs : List Int) (zn zc : Nat) (hzl : zs.length = zn) (hz : IntsAt .u8 W zo zs) (hzb : InB zs) (hzc : zn ≤ zc) (hzm : zc ≤ maxLen) :
 Calls Tryz.prog 7 #[.agg #[.slice ao n cap, .int .i64 E], .slice lo r lc, .int .i64 at_, .slice zo zn zc] W fun e w' => e = .returned (.bool true) ∧ Below W.heap.size W w' := by
 have HON := Lib.hid hone
 have HLOAD := Lib.hid hload
 clear hone hload
 have HOUT : Hid (∀ w1, Below W.heap.size W w1 → Calls Tryz.prog 8 #[] w1 fun e w' => e = .returned (.bool true) ∧ Below W.heap.size W w') := Lib.hid (fun w1 h1 => (first12_any w1).mono (fun e w' h => ⟨h.1, below_step h1 h.2⟩))
 have HI := Lib.hid h
 have HN := Lib.hid hn
 have HLS := Lib.hid h2
 have HR := Lib.hid hr
 have HZI := Lib.hid hz
 have HZ : Hid (zs.length = zn ∧ InB zs ∧ zn ≤ zc ∧ zc ≤ maxLen) := Lib.hid ⟨hzl, hzb, hzc, hzm⟩
 have HFW := Lib.hid (fun w1 (hb : Below W.heap.size W w1) => few12_any ao bs n cap E w1 hn (h.below hb) hcap hcm lo ls r lc hr (h2.below hb) hrc hrm)
 clear h hn h2 hr hcap hcm hrc hrm hzl hz hzb hzc hzm
 obtain ⟨w1, hw1⟩ : ∃ w1, w1 = W.alloc (.cells #[.slice ao n cap, .int .i64 E] 24) := ⟨_, rfl⟩
 obtain ⟨C, hC⟩ : ∃ C, C = W.heap.size := ⟨_, rfl⟩
 have hb1 : Below W.heap.size W w1 := by rw [hw1]; exact (Below.refl _ _).alloc (Nat.le_refl _) _
 have HX1 : Hid (w1.heap[C]? = some (.cells #[.slice ao n cap, .int .i64 E] 24 (0, 0))) := Lib.hid (by rw [hw1, hC]; exact heap_alloc_new _ _)
 have HB1 := Lib.hid hb1
 have HW1 := Lib.hid hw1
 have HC := Lib.hid hC
 clear hw1 hC hb1
 go_enter Tryz.func7, Tryz.ntmps7
 go_upto_region 1 with fail
 rw [← HW1.out, ← HC.out]
 clear HW1
 go_wp2_with fail
 refine (first12_any w1).mono ?_
 rintro e w2 ⟨rfl, hb2⟩
 have HX2 : Hid (w2.heap[C]? = some (.cells #[.slice ao n cap, .int .i64 E] 24 (0, 0))) := Lib.hid ((hb2.block C (blk_lt HX1.out)).trans HX1.out)
 have HB2 := Lib.hid (below_step HB1.out hb2)
 clear hb2 HX1 HB1
 have q0 := blk_cell HX2.out 0
 have q1 := blk_cell HX2.out 1
 simp only [lq] at q0 q1
 go_wp2_with fail
 refine (HFW.out w2 HB2.out).mono ?_
 rintro e w3 ⟨F, rfl, hb3, hF⟩
 have HF := Lib.hid hF
 have HX3 : Hid (w3.heap[C]? = some (.cells #[.slice ao n cap, .int .i64 E] 24 (0, 0))) := Lib.hid ((hb3.block C (blk_lt HX2.out)).trans HX2.out)
 have HB3 := Lib.hid (below_step HB2.out hb3)
 clear hb3 hF HX2 HB2 HFW q0 q1
 have q0 := blk_cell HX3.out 0
 have q1 := blk_cell HX3.out 1
 simp only [lq] at q0 q1
 cases F
 case false =>
  go_wp2_with fail
  refine (HOUT.out w3 HB3.out).mono ?_
  rintro e w4 ⟨rfl, hb4⟩
  have HB4 := Lib.hid hb4
  clear hb4
  go_wp2
  go_ret
  exact ⟨rfl, HB4.out⟩
 have HFE := Lib.hid (HF.out rfl)
 clear HF
 by_cases h40 : (40000 : Int) < (zn : Int)
 case pos =>
  go_wp2_with fail
  refine (HOUT.out w3 HB3.out).mono ?_
  rintro e w4 ⟨rfl, hb4⟩
  have HB4 := Lib.hid hb4
  clear hb4
  go_wp2
  go_ret
  exact ⟨rfl, HB4.out⟩
 case neg =>
 have HZ6 : Hid (zn ≤ 1000000) := Lib.hid (by omega)
 obtain ⟨tb, htb⟩ : ∃ tb, tb = w3.heap.size := ⟨_, rfl⟩
 have HTB := Lib.hid htb
 clear htb
 cases hcf : confOK bs E
 case false => as_aux_lemma =>
  have HCF := Lib.hid hcf
  clear hcf
  go_wp2_with fail
  refine (newTable_any w3).mono ?_
  rintro e w4 ⟨rfl, _, hb⟩
  rw [← HTB.out]
  have HX4 : Hid (w4.heap[C]? = some (.cells #[.slice ao n cap, .int .i64 E] 24 (0, 0))) := Lib.hid ((hb.block C (blk_lt HX3.out)).trans HX3.out)
  have HB4 := Lib.hid (below_step HB3.out hb)
  clear hb q0 q1
  have q0 := blk_cell HX4.out 0
  have q1 := blk_cell HX4.out 1
  simp only [lq] at q0 q1
  go_wp2_with fail
  refine (ledger_load_no tb ao bs n cap E zo zn zc w4 HN.out (HI.out.below HB4.out) HCF.out).mono ?_
  rintro e w5 ⟨rfl, hb⟩
  have HX5 : Hid (w5.heap[C]? = some (.cells #[.slice ao n cap, .int .i64 E] 24 (0, 0))) := Lib.hid ((hb.block C (blk_lt HX4.out)).trans HX4.out)
  have HB5 := Lib.hid (below_step HB4.out hb)
  clear hb q0 q1
  have q0 := blk_cell HX5.out 0
  have q1 := blk_cell HX5.out 1
  simp only [lq] at q0 q1
  go_wp2_with fail
  refine (xledger_load_no ao bs n cap E zo zn zc w5 HN.out (HI.out.below HB5.out) HCF.out).mono ?_
  rintro e w6 ⟨rfl, hb⟩
  have HX6 : Hid (w6.heap[C]? = some (.cells #[.slice ao n cap, .int .i64 E] 24 (0, 0))) := Lib.hid ((hb.block C (blk_lt HX5.out)).trans HX5.out)
  have HB6 := Lib.hid (below_step HB5.out hb)
  clear hb q0 q1
  go_upto_region 8 with fail
  refine wp_region_held_drew (S := fun _ => True) (by kernel_rfl) ?_ (fun hHeld => ?_)
  · trivial
  refine tk 0 50 ?_
  simp only [lz]
  refine tk 1 51 ?_
  simp only [lz]
  refine tk 2 52 ?_
  simp only [lz]
  refine tk 3 53 ?_
  simp only [lz]
  refine tk 4 54 ?_
  simp only [lz]
  refine tk 5 55 ?_
  simp only [lz]
  refine tk 6 56 ?_
  simp only [lz]
  refine tk 7 57 ?_
  simp only [lz]
  refine tk 8 58 ?_
  simp only [lz]
  refine tk 9 59 ?_
  simp only [lz]
  refine tk 10 60 ?_
  simp only [lz]
  refine tk 11 61 ?_
  simp only [lz]
  refine tk 12 62 ?_
  simp only [lz]
  refine tk 13 63 ?_
  simp only [lz]
  refine tu 14 64 ?_
  simp only [lz]
  refine tu 15 65 ?_
  simp only [lz]
  refine tu 16 66 ?_
  simp only [lz]
  refine tu 17 67 ?_
  simp only [lz]
  refine tu 18 68 ?_
  simp only [lz]
  refine tu 19 69 ?_
  simp only [lz]
  refine tu 20 70 ?_
  simp only [lz]
  refine tu 21 71 ?_
  simp only [lz]
  refine tu 22 72 ?_
  simp only [lz]
  refine tu 23 73 ?_
  simp only [lz]
  refine tu 24 74 ?_
  simp only [lz]
  refine tu 25 75 ?_
  simp only [lz]
  refine tu 26 76 ?_
  simp only [lz]
  refine tu 27 77 ?_
  simp only [lz]
  refine tu 28 78 ?_
  simp only [lz]
  refine tu 29 79 ?_
  simp only [lz]
  refine tu 30 80 ?_
  simp only [lz]
  refine tk 31 81 ?_
  simp only [lz]
  refine tk 32 82 ?_
  simp only [lz]
  refine wpAnyH_done (by kernel_rfl) ?_ _
  clear hHeld
  obtain ⟨w7, hw7⟩ : ∃ w7, w7 = w6.drew := ⟨_, rfl⟩
  have hb : Below w6.heap.size w6 w7 := by rw [hw7]; exact below_drew _
  rw [← hw7]
  clear hw7
  have HX7 : Hid (w7.heap[C]? = some (.cells #[.slice ao n cap, .int .i64 E] 24 (0, 0))) := Lib.hid ((hb.block C (blk_lt HX6.out)).trans HX6.out)
  have HB7 := Lib.hid (below_step HB6.out hb)
  clear hb
  have q0 := blk_cell HX7.out 0
  have q1 := blk_cell HX7.out 1
  simp only [lq] at q0 q1
  go_wp2_with fail
  refine (ledger_no tb ao bs n cap E w7 HN.out (HI.out.below HB7.out) HCF.out).mono ?_
  rintro e w8 ⟨rfl, hb⟩
  have HX8 : Hid (w8.heap[C]? = some (.cells #[.slice ao n cap, .int .i64 E] 24 (0, 0))) := Lib.hid ((hb.block C (blk_lt HX7.out)).trans HX7.out)
  have HB8 := Lib.hid (below_step HB7.out hb)
  clear hb q0 q1
  have q0 := blk_cell HX8.out 0
  have q1 := blk_cell HX8.out 1
  simp only [lq] at q0 q1
  go_wp2_with fail
  refine (xledger_no ao bs n cap E w8 HN.out (HI.out.below HB8.out) HCF.out).mono ?_
  rintro e w9 ⟨rfl, hb⟩
  have HX9 : Hid (w9.heap[C]? = some (.cells #[.slice ao n cap, .int .i64 E] 24 (0, 0))) := Lib.hid ((hb.block C (blk_lt HX8.out)).trans HX8.out)
  have HB9 := Lib.hid (below_step HB8.out hb)
  clear hb q0 q1
  go_wp2_with fail
  refine (HOUT.out w9 HB9.out).mono ?_
  rintro e wa ⟨rfl, hba⟩
  have HBa := Lib.hid hba
  clear hba
  go_wp2
  go_ret
  exact ⟨rfl, HBa.out⟩
 case true => as_aux_lemma =>
 have HCF := Lib.hid hcf
 clear hcf
 obtain ⟨m, hm⟩ : ∃ m, m = (bs.getD 0 default).zs.length := ⟨_, rfl⟩
 have HM := Lib.hid hm
 clear hm
 obtain ⟨T, hT⟩ : ∃ T : Nat → Int, T = fun j => tot (balOf bs) j n := ⟨_, rfl⟩
 obtain ⟨s0, hs0⟩ : ∃ s0 : LS, s0 = ⟨balOf bs, [], 0, []⟩ := ⟨_, rfl⟩
 have HS0 := Lib.hid hs0
 have HT0 := Lib.hid hT
 have HTC : Hid (C < tb) := Lib.hid (by have := HTB.out; have := blk_lt HX3.out; omega)
 have HTW : Hid (W.heap.size ≤ tb) := Lib.hid (by have := HTB.out; have := HB3.out.size; omega)
 clear hT hs0
 go_wp2_with fail
 refine (newTable_any w3).mono ?_
 rintro e w4 ⟨rfl, ht, hb⟩
 rw [← HTB.out] at ht ⊢
 have HT4 := Lib.hid ht
 clear ht
 have HX4 : Hid (w4.heap[C]? = some (.cells #[.slice ao n cap, .int .i64 E] 24 (0, 0))) := Lib.hid ((hb.block C (blk_lt HX3.out)).trans HX3.out)
 have HB4 := Lib.hid (below_step HB3.out hb)
 clear hb q0 q1
 have q0 := blk_cell HX4.out 0
 have q1 := blk_cell HX4.out 1
 simp only [lq] at q0 q1
 go_wp2_with fail
 refine (ledger_load W tb ao bs n cap m E zo zs zn zc w4 HB4.out HT4.out HTW.out HN.out (HI.out.below HB4.out) HCF.out HM.out.symm (BY.of HZI.out HB4.out HTW.out HZ.out.1 HZ.out.2.2 HZ.out.2.1 HZ6.out)).mono ?_
 rintro e w5 ⟨hld, ht5, hk5⟩
 rw [← HS0.out, ← HT0.out] at hld
 obtain ⟨u, cu, rfl, hlu⟩ : ∃ u cu, e = .returned (.tuple #[.pointer u, .int .i64 cu]) ∧ ((∃ s S A B q, loadC n m E s0 zs = some s ∧ u = some ⟨A, 0, none⟩ ∧ cu = 0 ∧ LD S W w5 n m E s T A B tb q) ∨ (loadC n m E s0 zs = none ∧ u = none ∧ cu = 2)) := by
  rcases hld with ⟨s, S, A, B, q, h1, h2, h3, _, _⟩ | ⟨h1, h2⟩
  · exact ⟨_, _, h2, Or.inl ⟨s, S, A, B, q, h1, rfl, rfl, h3⟩⟩
  · exact ⟨_, _, h2, Or.inr ⟨h1, rfl, rfl⟩⟩
 have HLD := Lib.hid hlu
 have HT5 := Lib.hid ht5
 have HB5 : Hid (Below W.heap.size W w5) := Lib.hid (below_fp HB4.out hk5 (fun i hi => by rw [hi]; exact HTW.out))
 have HX5 : Hid (w5.heap[C]? = some (.cells #[.slice ao n cap, .int .i64 E] 24 (0, 0))) := Lib.hid ((hk5.block C (blk_lt HX4.out) (fun e => by have := HTB.out; have := blk_lt HX3.out; omega)).trans HX4.out)
 clear ht5 hk5 hld hlu q0 q1
 have q0 := blk_cell HX5.out 0
 have q1 := blk_cell HX5.out 1
 simp only [lq] at q0 q1
 have HXL := Lib.hid (HLOAD.out ao bs n cap m E zo zs zn zc w5 HN.out (HI.out.below HB5.out) HCF.out HM.out.symm (ints_below HZI.out HB5.out) HZ.out.1 HZ.out.2.1 HZ.out.2.2.1 HZ.out.2.2.2 HZ6.out)
 rw [← HS0.out, ← HT0.out] at HXL
 have HES0 : Hid (s0.es = []) := Lib.hid (by rw [HS0.out])
 have HI0 : Hid (LInv n m E s0 T) := Lib.hid (by
  have hcc := HCF.out
  unfold confOK at hcc
  rw [Bool.and_eq_true, decide_eq_true_eq] at hcc
  obtain ⟨hm, e1, e4⟩ := hcc
  have hg := (mayF_good hm).1
  rw [← HM.out, HN.out] at hg
  rw [HS0.out, HT0.out]
  exact LInv.start hg ⟨e1, e4⟩)
 go_wp2_with fail
 refine HXL.out.mono ?_
 rintro e w6 ⟨hxl, hb⟩
 obtain ⟨v, cv, rfl, hxu⟩ : ∃ v cv, e = .returned (.tuple #[.pointer v, .int .i64 cv]) ∧ ((∃ s S X B q, Loads n m E T s0 zs s ∧ v = some ⟨X, 0, none⟩ ∧ cv = 0 ∧ XL S w5 w6 n m E s T X B q) ∨ ((∀ s, ¬ Loads n m E T s0 zs s) ∧ v = none ∧ cv = 2)) := by
  rcases hxl with ⟨s, S, A, B, q, h1, h2, h3⟩ | ⟨h1, h2⟩
  · exact ⟨_, _, h2, Or.inl ⟨s, S, A, B, q, h1, rfl, rfl, h3⟩⟩
  · exact ⟨_, _, h2, Or.inr ⟨h1, rfl, rfl⟩⟩
 have HXD := Lib.hid hxu
 have HBW := Lib.hid hb
 have HX6 : Hid (w6.heap[C]? = some (.cells #[.slice ao n cap, .int .i64 E] 24 (0, 0))) := Lib.hid ((hb.block C (blk_lt HX5.out)).trans HX5.out)
 have HB6 := Lib.hid (below_step HB5.out hb)
 have HT6 := Lib.hid (HT5.out.below hb)
 clear hb hxl hxu q0 q1 HXL
 go_upto_region 8 with fail
 go_cut [82] (fun a wx => a = .bool false ∧ Below w6.heap.size w6 wx)
 case first => as_aux_lemma =>
  rcases HLD.out with ⟨s, S, A, B, q, hlc, rfl, rfl, hd⟩ | ⟨hlc, rfl, rfl⟩
  · have hL := (loadC_iff HES0.out HI0.out zs).1 hlc
    rcases HXD.out with ⟨sx, Sx, X, C2, p, hl2, rfl, rfl, hx⟩ | ⟨hno, -, -⟩
    · have hl3 := (loadC_iff HES0.out HI0.out zs).2 hl2
      rw [hlc] at hl3
      simp only [Option.some.injEq] at hl3
      subst hl3
      have HD6 := Lib.hid (hd.below HBW.out)
      have HXX := Lib.hid (hx.below (below_drew w6))
      have HI6 := Lib.hid hL.inv
      obtain ⟨Sb, vb, hda, -, -⟩ := (HD6.out.below (below_drew w6)).dat
      have HDA := Lib.hid hda
      obtain ⟨Sc, st, ve, vw, vn, hxd, -⟩ := HXX.out
      obtain ⟨mo, mc, rfl, -, -⟩ := own_shape hxd.re
      obtain ⟨-, -, -, c3, c4, -, -⟩ := hxd.cells
      obtain ⟨ln, hln⟩ : ∃ ln, ln = s.es.length := ⟨_, rfl⟩
      have HLN : Hid (s.es.length = ln ∧ ln ≤ 400 ∧ s.evs.length = ln) := Lib.hid ⟨hln.symm, by rw [hln]; exact hL.inv.len.2.1, by rw [evs_len, hln]⟩
      rw [← hln] at c4
      have HXE : Hid (EvsAt w6.drew mo s.evs) := Lib.hid (evs_of_own (by rw [evs_len]) hxd.re)
      have HXC : Hid (∀ w', Below w6.drew.heap.size w6.drew w' → w'.cell? ⟨X, 3, none⟩ = some (.int .i64 s.ck) ∧ w'.cell? ⟨X, 4, none⟩ = some (.slice mo ln mc)) := Lib.hid (fun w' hb => by
       have h := (hxd.below hb).cells
       rw [← hln] at h
       exact ⟨h.2.2.2.1, h.2.2.2.2.1⟩)
      have HCL := Lib.hid (ledger_clock hda)
      have HEV := Lib.hid (ledger_events hda (by have := HLN.out; omega))
      rw [HLN.out.1] at HEV
      clear hd hx hda hxd hln hlc hl2 hL HLD HXD
      refine wp_region_held_drew (S := fun w' => w'.cell? ⟨X, 3, none⟩ = some (.int .i64 s.ck) ∧ w'.cell? ⟨X, 4, none⟩ = some (.slice mo ln mc)) (by kernel_rfl) ?_ (fun hHeld => ?_)
      · exact ⟨c3, c4⟩
      refine tk 0 50 ?_
      simp only [lz]
      refine tk 1 51 ?_
      simp only [lz]
      refine tk 2 52 ?_
      simp only [lz]
      refine tk 3 53 ?_
      simp only [lz]
      refine tk 4 54 ?_
      simp only [lz]
      refine tk 5 55 ?_
      simp only [lz]
      refine tk 6 56 ?_
      simp only [lz]
      refine tk 7 57 ?_
      simp only [lz]
      refine tk 8 58 ?_
      simp only [lz]
      refine tk 9 59 ?_
      simp only [lz]
      refine tk 10 60 ?_
      simp only [lz]
      refine tk 11 61 ?_
      simp only [lz]
      refine tk 12 62 ?_
      simp only [lz]
      refine tk 13 63 ?_
      simp only [lz]
      refine tk 14 64 ?_
      simp only [lz]
      refine tk 16 66 ?_
      simp only [lz]
      refine tk 17 67 ?_
      simp only [lz]
      refine tk 18 68 ?_
      simp only [lz]
      refine tk 19 69 ?_
      simp only [lz]
      refine wpAnyH_ready (rs := [15]) (by kernel_rfl) (by simp) ?_
      refine AllReadyH.cons rfl (fun K hK => ?_) AllReadyH.nil
      go_simp
      refine HCL.out.mono ?_
      rintro e wx ⟨rfl, rfl⟩
      go_wp2_with fail
      refine hK.out _ _ ?_ (fun hHeld => ?_)
      · exact ⟨c3, c4⟩
      clear hK K
      try simp only [Act.put, lg]
      try simp only [lz]
      refine tk 20 70 ?_
      simp only [lz]
      refine tk 21 71 ?_
      simp only [lz]
      refine tk 22 72 ?_
      simp only [lz]
      refine tk 24 74 ?_
      simp only [lz]
      refine tk 25 75 ?_
      simp only [lz]
      refine tk 26 76 ?_
      simp only [lz]
      refine tk 27 77 ?_
      simp only [lz]
      refine wpAnyH_ready (rs := [23]) (by kernel_rfl) (by simp) ?_
      refine AllReadyH.cons rfl (fun K hK => ?_) AllReadyH.nil
      go_simp
      refine HEV.out.mono ?_
      rintro e w7 ⟨ea, ec, rfl, hrow, hb, -⟩
      have HR7 := Lib.hid (evs_of_own HLN.out.2.2 hrow)
      have HX7 := Lib.hid (HXE.out.below hb)
      have HB7 := Lib.hid hb
      obtain ⟨d3, d4⟩ := HXC.out w7 hb
      clear hrow hb c3 c4
      go_wp2_with fail
      refine hK.out _ _ ?_ (fun hHeld => ?_)
      · exact ⟨d3, d4⟩
      clear hK K
      try simp only [Act.put, lg]
      try simp only [lz]
      refine wpAnyH_ready (rs := [28]) (by kernel_rfl) (by simp) ?_
      refine AllReadyH.cons rfl (fun K hK => ?_) AllReadyH.nil
      go_simp
      refine (rsameEvents ea mo s.evs s.evs ln ln ec mc w7 HLN.out.2.2 HLN.out.2.2 HR7.out HX7.out (by have := HLN.out; omega)).mono ?_
      rintro e w8 ⟨rfl, hb⟩
      rw [allB_same]
      have HB8 := Lib.hid (below_step HB7.out hb)
      obtain ⟨f3, f4⟩ := HXC.out w8 HB8.out
      clear hb d3 d4
      go_wp2_with fail
      refine hK.out _ _ ?_ (fun hHeld => ?_)
      · exact ⟨f3, f4⟩
      clear hK K
      try simp only [Act.put, lg]
      try simp only [lz]
      refine tk 29 79 ?_
      simp only [lz]
      refine tk 30 80 ?_
      simp only [lz]
      refine tk 31 81 ?_
      simp only [lz]
      refine tk 32 82 ?_
      simp only [lz]
      refine wpAnyH_done (by kernel_rfl) ?_ _
      clear hHeld f3 f4
      go_wp2_with fail
      go_meet
      case rel => exact ⟨rfl, below_step (below_drew w6) HB8.out⟩
    · exact absurd hL (hno s)
  · rcases HXD.out with ⟨sx, Sx, X, C2, p, hl2, -, -, -⟩ | ⟨-, rfl, rfl⟩
    · have hl3 := (loadC_iff HES0.out HI0.out zs).2 hl2
      rw [hlc] at hl3
      cases hl3
    · clear hlc HLD HXD
      refine wp_region_held_drew (S := fun _ => True) (by kernel_rfl) ?_ (fun hHeld => ?_)
      · trivial
      refine tk 0 50 ?_
      simp only [lz]
      refine tk 1 51 ?_
      simp only [lz]
      refine tk 2 52 ?_
      simp only [lz]
      refine tk 3 53 ?_
      simp only [lz]
      refine tk 4 54 ?_
      simp only [lz]
      refine tk 5 55 ?_
      simp only [lz]
      refine tk 6 56 ?_
      simp only [lz]
      refine tk 7 57 ?_
      simp only [lz]
      refine tk 8 58 ?_
      simp only [lz]
      refine tk 9 59 ?_
      simp only [lz]
      refine tk 10 60 ?_
      simp only [lz]
      refine tk 11 61 ?_
      simp only [lz]
      refine tk 12 62 ?_
      simp only [lz]
      refine tk 13 63 ?_
      simp only [lz]
      refine tu 14 64 ?_
      simp only [lz]
      refine tu 15 65 ?_
      simp only [lz]
      refine tu 16 66 ?_
      simp only [lz]
      refine tu 17 67 ?_
      simp only [lz]
      refine tu 18 68 ?_
      simp only [lz]
      refine tu 19 69 ?_
      simp only [lz]
      refine tu 20 70 ?_
      simp only [lz]
      refine tu 21 71 ?_
      simp only [lz]
      refine tu 22 72 ?_
      simp only [lz]
      refine tu 23 73 ?_
      simp only [lz]
      refine tu 24 74 ?_
      simp only [lz]
      refine tu 25 75 ?_
      simp only [lz]
      refine tu 26 76 ?_
      simp only [lz]
      refine tu 27 77 ?_
      simp only [lz]
      refine tu 28 78 ?_
      simp only [lz]
      refine tu 29 79 ?_
      simp only [lz]
      refine tu 30 80 ?_
      simp only [lz]
      refine tk 31 81 ?_
      simp only [lz]
      refine tk 32 82 ?_
      simp only [lz]
      refine wpAnyH_done (by kernel_rfl) ?_ _
      clear hHeld
      go_wp2_with fail
      go_meet
      case rel => exact ⟨rfl, below_drew w6⟩
 case rest => as_aux_lemma =>
 obtain ⟨rfl, hb⟩ := hcut
 rename World => w7
 have HX7 : Hid (w7.heap[C]? = some (.cells #[.slice ao n cap, .int .i64 E] 24 (0, 0))) := Lib.hid ((hb.block C (blk_lt HX6.out)).trans HX6.out)
 have HB7 := Lib.hid (below_step HB6.out hb)
 have HT7 := Lib.hid (HT6.out.below hb)
 clear hb HLD HXD
 have q0 := blk_cell HX7.out 0
 have q1 := blk_cell HX7.out 1
 simp only [lq] at q0 q1
 go_wp2_with fail
 refine (ledger_yes W tb ao bs n cap m E w7 HB7.out HT7.out HTW.out HN.out (HI.out.below HB7.out) HCF.out HM.out.symm).mono ?_
 rintro e w8 ⟨S0, A0, B0, q0', rfl, hd, hb, hn8⟩
 rw [← HS0.out, ← HT0.out] at hd
 have HD8 := Lib.hid hd
 have HX8 : Hid (w8.heap[C]? = some (.cells #[.slice ao n cap, .int .i64 E] 24 (0, 0))) := Lib.hid ((hb.block C (blk_lt HX7.out)).trans HX7.out)
 have HB8 := Lib.hid (below_step HB7.out hb)
 clear hd hb q0 q1
 have q0 := blk_cell HX8.out 0
 have q1 := blk_cell HX8.out 1
 simp only [lq] at q0 q1
 go_wp2_with fail
 refine (xledger_yes W ao bs n cap m E w8 HB8.out HN.out (HI.out.below HB8.out) HCF.out HM.out.symm).mono ?_
 rintro e w9 ⟨Sx0, X, C2, p, rfl, hx, hb, hn9⟩
 rw [← HS0.out, ← HT0.out] at hx
 have HTW9 : Hid (Two S0 Sx0 W w9 n m E s0 s0 T tb A0 B0 q0' X C2 p) := Lib.hid ⟨HD8.out.below hb, hx, fun i a b => by have := HD8.out.lt i a; have := hn9 i b; omega⟩
 have HX9 : Hid (w9.heap[C]? = some (.cells #[.slice ao n cap, .int .i64 E] 24 (0, 0))) := Lib.hid ((hb.block C (blk_lt HX8.out)).trans HX8.out)
 have HB9 := Lib.hid (below_step HB8.out hb)
 have HCS0 : Hid ((∀ i, S0 i → C < i) ∧ ∀ i, Sx0 i → C < i) := Lib.hid ⟨fun i hi => by
  rcases hn8 i hi with e | e
  · have := HTC.out; omega
  · have := blk_lt HX7.out; omega, fun i hi => by have := hn9 i hi; have := blk_lt HX8.out; omega⟩
 have HO0 : Hid (LOk n s0) := Lib.hid (by rw [HS0.out]; exact LOk.nil _ _ _)
 have HR0 : Hid (Rep n m E s0 s0) := Lib.hid (Rep.start HES0.out)
 have HR100 : Hid (r ≤ 100) := Lib.hid HFE.out.1
 clear hx hb hn8 hn9 q0 q1 HX3 HX4 HX5 HX6 HX7 HX8 HB3 HB4 HB5 HB6 HB7 HB8 HT4 HT5 HT6 HT7 HD8 HBW
 go_wp2_with fail
 go_loopw [14, 18] (fun mv i wr => ∃ j : Nat, j ≤ r ∧ i = .int .i64 j ∧ ∃ S Sx A B q s, mv = .pointer (some ⟨A, 0, none⟩) ∧ Two S Sx W wr n m E s s T tb A B q X C2 p ∧ LOk n s ∧ Rep n m E s0 s ∧ wr.heap[C]? = some (.cells #[.slice ao n cap, .int .i64 E] 24 (0, 0)) ∧ (∀ i, S i → C < i) ∧ ∀ i, Sx i → C < i) (fun _ i _ => r - (intOf i).toNat)
 case atStart => exact ⟨0, by omega, rfl, S0, Sx0, A0, B0, q0', s0, rfl, HTW9.out, HO0.out, HR0.out, HX9.out, HCS0.out⟩
 case round =>
  obtain ⟨j, hj, rfl, S, Sx, A, B, q, s, rfl, htw, hok, hrp, hxc, hcs, hcx⟩ := hrel
  have HT := Lib.hid htw
  have HO := Lib.hid hok
  have HRP := Lib.hid hrp
  have HXC := Lib.hid hxc
  have HCS := Lib.hid hcs
  have HCX := Lib.hid hcx
  clear htw hok hrp hxc hcs hcx HCS0 HTW9 HO0 HR0 HX9 HB9
  by_cases hlt : j < r
  case pos => as_aux_lemma =>
   have j0 : (0 : Int) ≤ (j : Int) := by omega
   have j1 : (j : Int) < (r : Int) := by omega
   have HLT := Lib.hid hlt
   have HJR : Hid (j ≤ 100) := Lib.hid (by have := HR100.out; omega)
   clear hj
   go_upto_if 122 with fail
   go_cut [14] (fun mv wx => ∃ S A B q, mv = .pointer (some ⟨A, 0, none⟩) ∧ Two S Sx W wx n m E s s T tb A B q X C2 p ∧ wx.heap[C]? = some (.cells #[.slice ao n cap, .int .i64 E] 24 (0, 0)) ∧ ∀ i, S i → C < i)
   case first => as_aux_lemma =>
    cases hja : ((j : Int) == at_)
    case false =>
     go_wp2_with fail
     go_meet
     case rel => exact ⟨S, A, B, q, rfl, HT.out, HXC.out, HCS.out⟩
    case true =>
     have HIV := Lib.hid HT.out.l.inv
     obtain ⟨Sb, vb, hda, -, -⟩ := HT.out.l.dat
     have HSA := Lib.hid (ledger_save hda HIV.out HO.out)
     have HSL : Hid ((saveB s).length ≤ 100000) := Lib.hid (by
      have h := saveK_len HO.out s.es.length (Nat.le_refl _)
      rw [saveK_all] at h
      have := HIV.out.len
      omega)
     have HLC : Hid (loadC n m E s0 (saveB s) = some s) := Lib.hid ((loadC_iff HES0.out HI0.out _).2 ⟨HIV.out, HO.out, HRP.out, rfl⟩)
     clear hda
     go_wp2_with fail
     refine HSA.out.mono ?_
     rintro e wa ⟨ba, bc, rfl, hia, hba, hna, hca, hcm⟩
     dsimp only at hia hca ⊢
     have HIA := Lib.hid hia
     have HNA := Lib.hid hna
     have HCA := Lib.hid (And.intro hca hcm)
     have HTa := Lib.hid (HT.out.below hba)
     have HBA := Lib.hid hba
     have HXa : Hid (wa.heap[C]? = some (.cells #[.slice ao n cap, .int .i64 E] 24 (0, 0))) := Lib.hid ((hba.block C (blk_lt HXC.out)).trans HXC.out)
     obtain ⟨L, hL⟩ : ∃ L, L = (saveB s).length := ⟨_, rfl⟩
     rw [← hL] at HCA HSL ⊢
     have HL := Lib.hid hL.symm
     obtain ⟨Sc, st, ve, vw, vn, hxd, -⟩ := HTa.out.x
     have HSX := Lib.hid (xledger_save hxd HIV.out HO.out)
     clear hia hba hna hca hcm hL hxd HSA
     go_wp2_with fail
     refine HSX.out.mono ?_
     rintro e wb ⟨bb, bd, rfl, hib, hbb⟩
     dsimp only at hib ⊢
     rw [HL.out]
     have HIB := Lib.hid hib
     have HIA2 := Lib.hid (ints_below HIA.out hbb)
     have HTb := Lib.hid (HTa.out.below hbb)
     have HXb : Hid (wb.heap[C]? = some (.cells #[.slice ao n cap, .int .i64 E] 24 (0, 0))) := Lib.hid ((hbb.block C (blk_lt HXa.out)).trans HXa.out)
     clear hib hbb HSX
     have HBE := Lib.hid (bytes_eq ba bb (saveB s) (saveB s) L L bc bd wb HL.out HL.out HIA2.out HIB.out (saveB_in s) (saveB_in s))
     rw [eqB_self] at HBE
     go_wp2_with fail
     refine HBE.out.mono ?_
     rintro e wx ⟨rfl, rfl⟩
     rename World => wb
     have q0 := blk_cell HXb.out 0
     have q1 := blk_cell HXb.out 1
     simp only [lq] at q0 q1
     have HLO := Lib.hid (ledger_load W tb ao bs n cap m E ba (saveB s) L bc wb HTb.out.bel HTb.out.l.tab HTW.out HN.out (HI.out.below HTb.out.bel) HCF.out HM.out.symm (BY.new HIA2.out HNA.out (HT.out.l.lt tb HT.out.l.tbS) HL.out HCA.out (saveB_in s) (by have := HSL.out; omega)))
     rw [← HS0.out, ← HT0.out] at HLO
     go_wp2_with fail
     refine HLO.out.mono ?_
     rintro e wc ⟨hlo, -, hkc⟩
     have hXC : wc.heap[C]? = some (.cells #[.slice ao n cap, .int .i64 E] 24 (0, 0)) := (hkc.block C (blk_lt HXb.out) (fun e => by have := HTC.out; omega)).trans HXb.out
     rcases hlo with ⟨s', S', A', B', q', h1, rfl, h3, -, h5⟩ | ⟨h1, -⟩
     · rw [HLC.out] at h1
       simp only [Option.some.injEq] at h1
       subst h1
       have HR : Hid (Two S' Sx W wc n m E s s T tb A' B' q' X C2 p) := Lib.hid (HTb.out.load h3 hkc h5)
       have HXc := Lib.hid hXC
       have HCc : Hid (∀ i, S' i → C < i) := Lib.hid (fun i hi => by
        rcases h5 i hi with e | e
        · have := HTC.out; omega
        · have := blk_lt HXb.out; omega)
       clear h3 hkc h5 hXC q0 q1
       go_wp2_with fail
       go_meet
       case rel => exact ⟨S', A', B', q', rfl, HR.out, HXc.out, HCc.out⟩
     · rw [HLC.out] at h1; cases h1
   case rest => as_aux_lemma =>
   obtain ⟨S1, A1, B1, q1, rfl, htw, hxc, hcs⟩ := hcut
   rename World => wa
   have HTa := Lib.hid htw
   have HXa := Lib.hid hxc
   have HCS1 := Lib.hid hcs
   clear htw hxc hcs HT HXC HCS
   have hjl : j < ls.length := by rw [HR.out]; exact hlt
   have HCE := Lib.hid (fun w' (hb : Below W.heap.size W w') => (HLS.out.below hb).at_ j hjl)
   have HOK := Lib.hid (HLS.out.2 ls[j] (List.getElem_mem hjl))
   have HFO := Lib.hid (HFE.out.2 ls[j] (List.getElem_mem hjl))
   generalize ls[j] = o at *
   obtain ⟨ob, off, rfl, c0, c1, c2, c3⟩ := HCE.out wa HTa.out.bel
   have HSZ := Lib.hid (rq_sizes HFO.out)
   obtain ⟨wb, hwb⟩ : ∃ wb, wb = wa.alloc (.cells #[.int .i64 o.p, .int .i64 o.c, .int .i64 o.q, .slice o.ro o.n o.cap] 43) := ⟨_, rfl⟩
   obtain ⟨O, hO⟩ : ∃ O, O = wa.heap.size := ⟨_, rfl⟩
   have hbb : Below wa.heap.size wa wb := by rw [hwb]; exact (Below.refl _ _).alloc (Nat.le_refl _) _
   have HOb : Hid (wb.heap[O]? = some (.cells #[.int .i64 o.p, .int .i64 o.c, .int .i64 o.q, .slice o.ro o.n o.cap] 43 (0, 0))) := Lib.hid (by rw [hwb, hO]; exact heap_alloc_new _ _)
   have HOS : Hid (¬ S1 O ∧ ¬ Sx O) := Lib.hid ⟨fun hh => by have := HTa.out.l.lt O hh; omega, fun hh => by have := HTa.out.x.lt O hh; omega⟩
   have HTb := Lib.hid (HTa.out.below hbb)
   have HXb : Hid (wb.heap[C]? = some (.cells #[.slice ao n cap, .int .i64 E] 24 (0, 0))) := Lib.hid ((hbb.block C (blk_lt HXa.out)).trans HXa.out)
   have HCS : Hid (¬ S1 C ∧ ¬ Sx C) := Lib.hid ⟨fun hh => Nat.lt_irrefl _ (HCS1.out C hh), fun hh => Nat.lt_irrefl _ (HCX.out C hh)⟩
   have HWb := Lib.hid hwb
   have HOO := Lib.hid hO
   clear hwb hO hbb
   go_upto_region 26 with fail
   rw [← HWb.out, ← HOO.out]
   clear c0 c1 c2 c3 HWb
   have HTd := Lib.hid (HTb.out.below (below_drew _))
   have HRR : Hid (r - (j + 1) < r - j) := Lib.hid (by omega)
   have HAX := Lib.hid (ledger_apply HTd.out.l o.p o.c o.q o.ro o.rs o.n o.cap HOK.out.2.1 HOK.out.2.2.1 HOK.out.2.2.2 (rqs_stay HOK.out.1 HTd.out.l) HSZ.out)
   have HAY := Lib.hid (fun w' (hd : XL Sx W w' n m E s T X C2 p) => xled_apply HON.out hd o.p o.c o.q o.ro o.rs o.n o.cap HOK.out.2.1 HOK.out.2.2.1 HOK.out.2.2.2 (rqs_stayx HOK.out.1 hd))
   have HO1 := Lib.hid (HO.out.app HTa.out.l.inv o.p o.c o.rs)
   have HRP1 := Lib.hid (HRP.out.app HTa.out.l.inv o.p o.c o.rs)
   have HI1 := Lib.hid (HTa.out.l.inv.app o.p o.c o.rs)
   have HYL : Hid ((appR n m E s o.p o.c o.rs).length ≤ 64) := Lib.hid (by rw [app_len]; omega)
   generalize applyF n m E s o.p o.c o.rs = s1 at *
   generalize appR n m E s o.p o.c o.rs = ys at *
   have HEL : Hid ((dropF s1.evs o.q).length ≤ 400) := Lib.hid (by have := drop_len s1 o.q; have := HI1.out.len.2.1; omega)
   generalize dropF s1.evs o.q = es at *
   obtain ⟨ly, hly⟩ : ∃ ly, ly = ys.length := ⟨_, rfl⟩
   obtain ⟨le, hle⟩ : ∃ le, le = es.length := ⟨_, rfl⟩
   have HLL : Hid (ys.length = ly ∧ es.length = le ∧ ly ≤ 64 ∧ le ≤ 400) := Lib.hid ⟨hly.symm, hle.symm, by rw [hly]; exact HYL.out, by rw [hle]; exact HEL.out⟩
   unfold AppPost at HAX
   unfold XAppPost at HAY
   rw [← hly, ← hle] at HAX
   have HAY2 := Lib.hid (fun w' hd => HAY.out w' hd)
   simp only [← hly, ← hle] at HAY2
   have c0 := blk_cell HOb.out 0
   have c1 := blk_cell HOb.out 1
   have c2 := blk_cell HOb.out 2
   have c3 := blk_cell HOb.out 3
   simp only [lq] at c0 c1 c2 c3
   have HOd : Hid (wb.drew.heap[O]? = some (.cells #[.int .i64 o.p, .int .i64 o.c, .int .i64 o.q, .slice o.ro o.n o.cap] 43 (0, 0))) := Lib.hid HOb.out
   have HXd : Hid (wb.drew.heap[C]? = some (.cells #[.slice ao n cap, .int .i64 E] 24 (0, 0))) := Lib.hid HXb.out
   clear hlt hjl hly hle HAY HYL HEL
   refine wp_region_held_drew (S := fun w' => w'.cell? ⟨O, 0, none⟩ = some (.int .i64 o.p) ∧ w'.cell? ⟨O, 1, none⟩ = some (.int .i64 o.c) ∧ w'.cell? ⟨O, 2, none⟩ = some (.int .i64 o.q) ∧ w'.cell? ⟨O, 3, none⟩ = some (.slice o.ro o.n o.cap)) (by kernel_rfl) ?_ (fun hHeld => ?_)
   · exact ⟨c0, c1, c2, c3⟩
   refine tk 0 159 ?_
   simp only [lz]
   refine tk 1 160 ?_
   simp only [lz]
   refine tk 2 161 ?_
   simp only [lz]
   refine tk 3 162 ?_
   simp only [lz]
   refine tk 4 163 ?_
   simp only [lz]
   refine tk 5 164 ?_
   simp only [lz]
   refine tk 6 165 ?_
   simp only [lz]
   refine tk 8 167 ?_
   simp only [lz]
   refine tk 9 168 ?_
   simp only [lz]
   refine tk 10 169 ?_
   simp only [lz]
   refine tk 11 170 ?_
   simp only [lz]
   refine tk 12 171 ?_
   simp only [lz]
   refine tk 13 172 ?_
   simp only [lz]
   refine tk 14 173 ?_
   simp only [lz]
   refine wpAnyH_ready (rs := [7]) (by kernel_rfl) (by simp) ?_
   refine AllReadyH.cons rfl (fun K hK => ?_) AllReadyH.nil
   go_simp
   refine HAX.out.mono ?_
   rintro e w6 ⟨ra, rc, ea, ec, rfl, hra, hea, -, -, S6, hd6, hk6, hn6, har, hae⟩
   have HT6 := Lib.hid (HTd.out.turnl hd6 hk6 hn6)
   have HC6 : Hid (∀ i, S6 i → C < i) := Lib.hid (fun i hi => by
    rcases hn6 i hi with e | e
    · exact HCS1.out i e
    · have := blk_lt HXd.out; omega)
   have HRA6 := Lib.hid hra
   have HEA6 := Lib.hid hea
   have HNA : Hid ((∀ a, ra = some a → ¬ Sx a.block) ∧ ∀ a, ea = some a → ¬ Sx a.block) := Lib.hid ⟨fun a ha hs => by have h1 := (har a ha).2; have h2 := HTd.out.x.lt _ hs; omega, fun a ha hs => by have h1 := (hae a ha).2; have h2 := HTd.out.x.lt _ hs; omega⟩
   have HO6 := Lib.hid ((hk6.block O (blk_lt HOd.out) HOS.out.1).trans HOd.out)
   have HX6 := Lib.hid ((hk6.block C (blk_lt HXd.out) HCS.out.1).trans HXd.out)
   clear hd6 hk6 hn6 har hae hra hea c0 c1 c2 c3
   have c0 := blk_cell HO6.out 0
   have c1 := blk_cell HO6.out 1
   have c2 := blk_cell HO6.out 2
   have c3 := blk_cell HO6.out 3
   simp only [lq] at c0 c1 c2 c3
   dsimp only
   go_wp2_with fail
   refine hK.out _ _ ?_ (fun hHeld => ?_)
   · exact ⟨c0, c1, c2, c3⟩
   clear hK K
   try simp only [Act.put, lg]
   try simp only [lz]
   refine wpAnyH_ready (rs := [15]) (by kernel_rfl) (by simp) ?_
   refine AllReadyH.cons rfl (fun K hK => ?_) AllReadyH.nil
   go_simp
   refine (HAY2.out w6 HT6.out.x).mono ?_
   rintro e w7 ⟨rb, rcb, eb, ecb, rfl, hrb, heb, -, -, S7, hd7, hk7, hn7, -, -⟩
   have HT7 := Lib.hid (HT6.out.turnx hd7 hk7 hn7)
   have HC7 : Hid (∀ i, S7 i → C < i) := Lib.hid (fun i hi => by
    rcases hn7 i hi with e | e
    · exact HCX.out i e
    · have := blk_lt HX6.out; omega)
   have HRA7 := Lib.hid (HRA6.out.keep hk7 HNA.out.1)
   have HEA7 := Lib.hid (HEA6.out.keep hk7 HNA.out.2)
   have HRB7 := Lib.hid hrb
   have HEB7 := Lib.hid heb
   have HO7 := Lib.hid ((hk7.block O (blk_lt HO6.out) HOS.out.2).trans HO6.out)
   have HX7 := Lib.hid ((hk7.block C (blk_lt HX6.out) HCS.out.2).trans HX6.out)
   clear hd7 hk7 hn7 hrb heb c0 c1 c2 c3
   have c0 := blk_cell HO7.out 0
   have c1 := blk_cell HO7.out 1
   have c2 := blk_cell HO7.out 2
   have c3 := blk_cell HO7.out 3
   simp only [lq] at c0 c1 c2 c3
   dsimp only
   go_wp2_with fail
   refine hK.out _ _ ?_ (fun hHeld => ?_)
   · exact ⟨c0, c1, c2, c3⟩
   clear hK K
   try simp only [Act.put, lg]
   try simp only [lz]
   refine wpAnyH_ready (rs := [16]) (by kernel_rfl) (by simp) ?_
   refine AllReadyH.cons rfl (fun K hK => ?_) AllReadyH.nil
   go_simp
   refine (rsameAnswer s1.ck (s1.es.length : Int) ra ys ly rc ea es le ec s1.ck (s1.es.length : Int) rb ys ly rcb eb es le ecb w7 HLL.out.1 HLL.out.2.1 HLL.out.1 HLL.out.2.1 HRA7.out HRB7.out HEA7.out HEB7.out (by have := HLL.out; omega) (by have := HLL.out; omega)).mono ?_
   rintro e w8 ⟨rfl, hb8⟩
   rw [(sameA_iff s1.ck (s1.es.length : Int) ys es s1.ck (s1.es.length : Int) ys es).2 ⟨rfl, rfl, rfl, rfl⟩]
   have HT8 := Lib.hid (HT7.out.below hb8)
   have HO8 := Lib.hid ((hb8.block O (blk_lt HO7.out)).trans HO7.out)
   have HX8 := Lib.hid ((hb8.block C (blk_lt HX7.out)).trans HX7.out)
   clear hb8 c0 c1 c2 c3
   have c0 := blk_cell HO8.out 0
   have c1 := blk_cell HO8.out 1
   have c2 := blk_cell HO8.out 2
   have c3 := blk_cell HO8.out 3
   simp only [lq] at c0 c1 c2 c3
   dsimp only
   go_wp2_with fail
   refine hK.out _ _ ?_ (fun hHeld => ?_)
   · exact ⟨c0, c1, c2, c3⟩
   clear hK K
   try simp only [Act.put, lg]
   try simp only [lz]
   refine tk 17 176 ?_
   simp only [lz]
   refine wpAnyH_done (by kernel_rfl) ?_ _
   clear hHeld c0 c1 c2 c3
   have hr1 := HR100.out
   go_wp2
   go_roundw
   case rel => exact ⟨j + 1, HLT.out, by go_num, S6, S7, A1, B1, q1, s1, rfl, HT8.out, HO1.out, HRP1.out, HX8.out, HC6.out, HC7.out⟩
   case measure => simpa [intOf] using HRR.out
  case neg => as_aux_lemma =>
   obtain rfl : j = r := by omega
   have HBW := Lib.hid HT.out.bel
   clear hj hlt
   go_wp2_with fail
   refine (HOUT.out wr HBW.out).mono ?_
   rintro e w4 ⟨rfl, hb4⟩
   have HB4 := Lib.hid hb4
   clear hb4
   go_wp2
   go_ret
   exact ⟨rfl, HB4.out⟩
set_option maxRecDepth 100000 in
set_option maxHeartbeats 20000000 in
theorem xledger_load (hone : OneLaw) (ao : Option Addr) (bs : List ISl) (n cap m : Nat) (E : Int) (zo : Option Addr) (zs : List Int) (zn zc : Nat) (w : World) (hn : bs.length = n) (h : IntsList w ao bs) (hc : confOK bs E = true) (hm2 : (bs.getD 0 default).zs.length = m) (hz : IntsAt .u8 w zo zs) (hzl : zs.length = zn) (hzb : InB zs) (hzc : zn ≤ zc) (hzm : zc ≤ maxLen) (hz6 : zn ≤ 1000000) :
 Calls Tryz.prog 22 #[.agg #[.slice ao n cap, .int .i64 E], .slice zo zn zc] w (XLoadPost w n m E ⟨balOf bs, [], 0, []⟩ (fun j => tot (balOf bs) j n) zs) := by
 obtain ⟨w1, hw1⟩ : ∃ w1, w1 = w.alloc (.cells #[.slice ao n cap, .int .i64 E] 24) := ⟨_, rfl⟩
 have hb1 : Below w.heap.size w w1 := by rw [hw1]; exact (Below.refl _ _).alloc (Nat.le_refl _) _
 have HX1 : Hid (w1.heap[w.heap.size]? = some (.cells #[.slice ao n cap, .int .i64 E] 24 (0, 0))) := Lib.hid (by rw [hw1]; exact heap_alloc_new _ _)
 have HB1 := Lib.hid hb1
 have HW1 := Lib.hid hw1
 have HNEW := Lib.hid (xledger_yes w ao bs n cap m E w1 hb1 hn (h.below hb1) hc hm2)
 obtain ⟨T, hT⟩ : ∃ T : Nat → Int, T = fun j => tot (balOf bs) j n := ⟨_, rfl⟩
 obtain ⟨s0, hs0⟩ : ∃ s0 : LS, s0 = ⟨balOf bs, [], 0, []⟩ := ⟨_, rfl⟩
 rw [← hT, ← hs0] at HNEW ⊢
 have HS0 : Hid (s0.es = []) := Lib.hid (by rw [hs0])
 have HZ : Hid (zs.length = zn ∧ InB zs ∧ zn ≤ zc ∧ zc ≤ maxLen ∧ zn ≤ 1000000) := Lib.hid ⟨hzl, hzb, hzc, hzm, hz6⟩
 have HZI := Lib.hid hz
 have HON := Lib.hid hone
 have q0 := blk_cell HX1.out 0
 have q1 := blk_cell HX1.out 1
 simp only [lq] at q0 q1
 clear hw1 hb1 hn h hc hm2 hT hs0 hz hzl hzb hzc hzm hz6 hone
 go_enter Tryz.func22, Tryz.ntmps22
 go_upto_region 1 with fail
 rw [← HW1.out]
 go_wp2_with fail
 refine HNEW.out.mono ?_
 rintro e w2 ⟨S0, X, B, q, rfl, hd2, hb2, hS0⟩
 have HD2 := Lib.hid hd2
 have HI0 := Lib.hid hd2.inv
 have HN2 := Lib.hid hS0
 have HW12 : Hid (w1.heap.size = w.heap.size + 1) := Lib.hid (by rw [HW1.out]; simp)
 have HB2 := Lib.hid hb2
 clear hd2 hb2 hS0 q0 q1 HNEW HX1
 go_upto_region 5 with fail
 obtain ⟨g, hg, hgl⟩ := rdec_at (w := w) (w1 := w2) (below_step HB1.out HB2.out) (by have := HB2.out.size; have := HW12.out; omega) HZ.out.1 HZI.out HZ.out.2.1 HZ.out.2.2.1 HZ.out.2.2.2.1 (by have := HZ.out.2.2.2.2; omega)
 obtain ⟨w3, hw3⟩ : ∃ w3, w3 = w2.alloc (.cells #[.slice zo zn zc, .int .i64 0] 119) := ⟨_, rfl⟩
 obtain ⟨P, hP⟩ : ∃ P, P = w2.heap.size := ⟨_, rfl⟩
 rw [← hw3, ← hP] at hg ⊢
 have HL3 : Hid (LW w w3 S0 n m E s0 T X B q P g (zs, 0)) := Lib.hid (by
  have hb3 : Below w2.heap.size w2 w3 := by rw [hw3]; exact (Below.refl _ _).alloc (Nat.le_refl _) _
  have h12 := HW12.out
  have h22 := HB2.out.size
  exact ⟨HD2.out.below hb3, hg, fun hh => by have := HD2.out.lt P hh; omega, fun hh => by have := HN2.out g hh; omega, by have := hb3.size; omega, by omega⟩)
 clear hw3 hP hg hgl HD2 HN2 HB2 HB1 HW1 HW12
 have HA0 := Lib.hid (LdAt.start (n := n) (m := m) (E := E) (T := T) (b := zs) HS0.out)
 go_wp2_with fail
 refine (HL3.out.num 8).mono ?_
 rintro e w4 ⟨rfl, hl4⟩
 have HL4 := Lib.hid hl4
 clear hl4
 generalize dN 8 (zs, 0) = D1 at *
 obtain ⟨ck0, d1⟩ := D1
 dsimp only at HL4 HA0 ⊢
 go_wp2_with fail
 refine (HL4.out.num 2).mono ?_
 rintro e w5 ⟨rfl, hl5⟩
 have HL5 := Lib.hid hl5
 clear hl5
 generalize dN 2 d1 = D2 at *
 obtain ⟨N, d2⟩ := D2
 dsimp only at HL5 HA0 ⊢
 go_upto_block 0 with fail
 go_cut [] (fun wx => ∃ (i : Nat) (d : DS) (si : LS) (S : Nat → Prop), LW w wx S n m E si T X B q P g d ∧ LdAt n m E T s0 zs ck0 N i d si ∧ (¬ (i : Int) < N ∨ d.2 ≠ 0))
 case first =>
  go_wp2_with fail
  go_loopw [11] (fun iv wr => ∃ (i : Nat) (d : DS) (si : LS) (S : Nat → Prop), iv = .int .i64 (i : Nat) ∧ LW w wr S n m E si T X B q P g d ∧ LdAt n m E T s0 zs ck0 N i d si) (fun iv _ => (N - intOf iv).toNat)
  case atStart => exact ⟨0, d2, s0, S0, rfl, HL5.out, HA0.out⟩
  case round =>
   obtain ⟨i, d, si, S, rfl, hlw, hat⟩ := hrel
   have HLW := Lib.hid hlw
   have HAT := Lib.hid hat
   have e1 := hlw.err
   clear hlw hat HL5 HA0 HL4 HL3
   have i0 : (0 : Int) ≤ (i : Int) := by omega
   by_cases hgo : (i : Int) < N ∧ d.2 = 0
   case pos =>
    obtain ⟨hi, hd0⟩ := hgo
    rw [hd0] at e1
    have HIN := Lib.hid hi
    have HSI := Lib.hid HLW.out.ld.inv
    have HIL : Hid (si.es.length = i ∧ i ≤ 400) := Lib.hid ⟨HAT.out.len, by rw [← HAT.out.len]; exact HSI.out.len.2.1⟩
    clear hd0
    go_wp2_with fail
    refine (HLW.out.num 1).mono ?_
    rintro e w6 ⟨rfl, hl6⟩
    have HL6 := Lib.hid hl6
    have HBAD := Lib.hid (fun hb => HAT.out.bad HIN.out hb)
    have HWOR := Lib.hid (fun (s2 : LS) h2 hb => HAT.out.worse (s2 := s2) HIN.out h2 hb)
    have HSTP := Lib.hid (fun (s2 : LS) h2 hc hl he => HAT.out.step (s2 := s2) HS0.out HI0.out HIN.out h2 hc hl he)
    clear hl6 e1 hi
    generalize dN 1 d = D6 at *
    obtain ⟨pp, d6⟩ := D6
    dsimp only at HL6 HBAD HWOR HSTP ⊢
    go_wp2_with fail
    refine (HL6.out.num 8).mono ?_
    rintro e w7 ⟨rfl, hl7⟩
    have HL7 := Lib.hid hl7
    clear hl7
    generalize dN 8 d6 = D7 at *
    obtain ⟨cc, d7⟩ := D7
    dsimp only at HL7 HBAD HWOR HSTP ⊢
    have HEV := Lib.hid HL7.out.event
    generalize evxGet d7 = D8 at *
    obtain ⟨v, d8⟩ := D8
    dsimp only at HEV HBAD HWOR HSTP
    unfold EV.cells at HEV
    go_wp2_with fail
    refine HEV.out.mono ?_
    rintro e w8 ⟨rfl, hl8⟩
    have HL8 := Lib.hid hl8
    clear hl8
    obtain ⟨wa, hwa⟩ : ∃ wa, wa = w8.alloc (.cells v.cells 55) := ⟨_, rfl⟩
    obtain ⟨V, hV⟩ : ∃ V, V = w8.heap.size := ⟨_, rfl⟩
    have hba : Below w8.heap.size w8 wa := by rw [hwa]; exact (Below.refl _ _).alloc (Nat.le_refl _) _
    have HVa : Hid (EvB wa V v) := Lib.hid (by rw [hwa, hV]; exact heap_alloc_new _ _)
    have HLa := Lib.hid (HL8.out.below hba)
    have HSV : Hid (¬ S V ∧ V ≠ P ∧ V ≠ g ∧ w.heap.size ≤ V) := Lib.hid ⟨fun hh => by have := HL8.out.ld.lt V hh; omega, fun e => by have := HL8.out.dec.lt; omega, fun e => by have := HL8.out.gl; omega, by have := HL8.out.bel.size; omega⟩
    unfold EV.cells at hwa
    go_upto_region 12 with fail
    rw [← hwa, ← hV]
    clear hwa hV hba HEV HLW HL6 HL7 HL8
    have HOK := Lib.hid (mayEV_ok v)
    obtain ⟨BB, hBB⟩ : ∃ BB : Bool, BB = (!(d8.2 == 0) || (!okE true v || decide (cc < si.ck))) := ⟨_, rfl⟩
    have HBB := Lib.hid hBB
    clear hBB
    go_cut [68] (fun a wx => a = .bool BB ∧ Below wa.heap.size wa wx)
    case first => as_aux_lemma =>
     have ge1 := HLa.out.err
     obtain ⟨x0, x1, x2, x3, x4, x5, x6, x7, x8⟩ := HVa.out.all
     cases hd : (d8.2 == 0)
     case false =>
      have HB : Hid (BB = true) := Lib.hid (by rw [HBB.out, hd]; rfl)
      have hdn : (d8.2 != 0) = true := by rw [bne, hd]; rfl
      go_wp2_with fail
      go_meet
      case rel => exact ⟨by rw [HB.out], Below.refl _ _⟩
     case true =>
      have HB : Hid (BB = (!okE true v || decide (cc < si.ck))) := Lib.hid (by rw [HBB.out, hd]; rfl)
      have hd0 : d8.2 = 0 := by simpa using hd
      rw [hd0] at ge1
      have HME := Lib.hid (mayEvent v wa)
      rw [HOK.out] at HME
      unfold EV.cells at HME
      clear hd hd0
      cases hok : okE true v
      case false =>
       have HB2 : Hid (BB = true) := Lib.hid (by rw [HB.out, hok]; rfl)
       rw [hok] at HME
       clear hok
       go_wp2_with fail
       refine HME.out.mono ?_
       rintro e wb ⟨rfl, hb⟩
       have HBb := Lib.hid hb
       clear hb
       go_wp2_with fail
       go_meet
       case rel => exact ⟨by rw [HB2.out], HBb.out⟩
      case true =>
       have HB2 : Hid (BB = decide (cc < si.ck)) := Lib.hid (by rw [HB.out, hok]; rfl)
       rw [hok] at HME
       clear hok
       go_wp2_with fail
       refine HME.out.mono ?_
       rintro e wb ⟨rfl, hb⟩
       have HBb := Lib.hid hb
       have c3 := (HLa.out.below hb).ck
       clear hb x0 x1 x2 x3 x4 x5 x6 x7 x8 ge1
       go_wp2_with fail
       go_meet
       case rel => exact ⟨by rw [HB2.out], HBb.out⟩
    case rest =>
    obtain ⟨rfl, hbb⟩ := hcut
    rename World => wb
    have HLb := Lib.hid (HLa.out.below hbb)
    have HVb : Hid (EvB wb V v) := Lib.hid ((hbb.block V (blk_lt HVa.out)).trans HVa.out)
    clear hbb
    cases BB
    case true =>
     have HF := Lib.hid (HBAD.out (by
      have h := HBB.out.symm
      simp only [Bool.or_eq_true, Bool.not_eq_true', beq_eq_false_iff_ne, ne_eq, decide_eq_true_eq] at h
      exact h))
     have HBL := Lib.hid HLb.out.bel
     go_wp2
     go_ret2
     exact ⟨Or.inr ⟨HF.out, rfl⟩, HBL.out⟩
    case false =>
    have HCC : Hid (si.ck ≤ cc) := Lib.hid (by
     have h := HBB.out.symm
     simp only [Bool.or_eq_false_iff, decide_eq_false_iff_not] at h
     omega)
    obtain ⟨x0, x1, x2, x3, x4, x5, x6, x7, x8⟩ := HVb.out.all
    obtain ⟨wc, hwc⟩ : ∃ wc, wc = wb.alloc (.cells v.rq.cells 52) := ⟨_, rfl⟩
    obtain ⟨R, hR⟩ : ∃ R, R = wb.heap.size := ⟨_, rfl⟩
    have hbc : Below wb.heap.size wb wc := by rw [hwc]; exact (Below.refl _ _).alloc (Nat.le_refl _) _
    have HRc : Hid (RqB wc R v.rq) := Lib.hid (by rw [hwc, hR]; exact heap_alloc_new _ _)
    have HLc := Lib.hid (HLb.out.below hbc)
    have HVc : Hid (EvB wc V v) := Lib.hid ((hbc.block V (blk_lt HVb.out)).trans HVb.out)
    have HSR : Hid (¬ S R ∧ R ≠ P ∧ R ≠ g ∧ R ≠ V ∧ w.heap.size ≤ R) := Lib.hid ⟨fun hh => by have := HLb.out.ld.lt R hh; omega, fun e => by have := HLb.out.dec.lt; omega, fun e => by have := HLb.out.gl; omega, fun e => by have := blk_lt HVb.out; omega, by have := HLb.out.bel.size; omega⟩
    have HWc := Lib.hid hwc
    have HRR := Lib.hid hR
    unfold EV.rq RQ.cells at HWc
    dsimp only at HWc
    clear hwc hR hbc HLa HVa HBAD
    go_upto_region 15 with fail
    rw [← HWc.out, ← HRR.out]
    clear x0 x1 x2 x3 x4 x5 x6 x7 x8 HWc HLb HVb HRR
    obtain ⟨x0, -⟩ := HVc.out.all
    have q4 := blk_cell HRc.out 4
    have f4 := blk_frozen HRc.out 4
    simp only [RQ.cells, lq] at q4
    go_upto_if 88 with fail
    go_cut [] (fun wx => RqB wx R (rqOf v) ∧ LW w wx S n m E si T X B q P g d8 ∧ EvB wx V v)
    case first => as_aux_lemma =>
     cases hkb : (v.k == 2)
     case true =>
      have hk : v.k = 2 := by simpa using hkb
      obtain ⟨w3, hw3⟩ : ∃ w3, w3 = wc.setCell ⟨R, 4, none⟩ (.int .i64 0) := ⟨_, rfl⟩
      have hk3 : Keeps (fun i => i = R) wc w3 := by rw [hw3]; exact (Keeps.refl (fun i => i = R) wc).setCell (p := ⟨R, 4, none⟩) (Or.inl rfl) _
      have HR : Hid (RqB w3 R (rqOf v) ∧ LW w w3 S n m E si T X B q P g d8 ∧ EvB w3 V v) := Lib.hid (by
       refine ⟨?_, ⟨HLc.out.ld.keep hk3 (fun i hi hh => HSR.out.1 (hi ▸ hh)) (fun i hi => by rw [hi]; exact HSR.out.2.2.2.2), HLc.out.dec.keep hk3 (fun e => HSR.out.2.1 e.symm) (Or.inr (fun e => HSR.out.2.2.1 e.symm)), HLc.out.pS, HLc.out.gS, Nat.lt_of_lt_of_le HLc.out.gl hk3.size, HLc.out.oP⟩, HVc.out.keep hk3 (fun e => HSR.out.2.2.2.1 e.symm)⟩
       have h1 := blk_set HRc.out 4 (.int .i64 0)
       rw [← hw3] at h1
       unfold RqB rqOf
       rw [if_pos hk]
       simpa [EV.rq, RQ.cells] using h1)
      clear hk3 hk
      go_wp2_with fail
      rw [← hw3]
      go_meet
      case rel => exact HR.out
     case false =>
      have HR : Hid (RqB wc R (rqOf v)) := Lib.hid (by have h1 := HRc.out; unfold rqOf; rw [if_neg (by simpa using hkb)]; exact h1)
      go_wp2_with fail
      go_meet
      case rel => exact ⟨HR.out, HLc.out, HVc.out⟩
    case rest =>
    obtain ⟨hq3, hd3, hx3⟩ := hcut
    rename World => w3
    have HQ3 := Lib.hid hq3
    have HL3 := Lib.hid hd3
    have HV3 := Lib.hid hx3
    clear hq3 hd3 hx3 x0 q4 f4 HLc HVc HRc
    obtain ⟨y0, y1, y2, y3, y4, y5, y6, y7⟩ := HQ3.out.all
    obtain ⟨rq, hrq⟩ : ∃ rq, rq = rqOf v := ⟨_, rfl⟩
    rw [← hrq] at y0 y1 y2 y3 y4 y5 y6 y7
    obtain ⟨w4, hw4⟩ : ∃ w4, w4 = w3.alloc (.cells rq.cells 52) := ⟨_, rfl⟩
    obtain ⟨Q, hQ⟩ : ∃ Q, Q = w3.heap.size := ⟨_, rfl⟩
    have hb4 : Below w3.heap.size w3 w4 := by rw [hw4]; exact (Below.refl _ _).alloc (Nat.le_refl _) _
    have HQ4 : Hid (RqB w4 Q rq) := Lib.hid (by rw [hw4, hQ]; exact heap_alloc_new _ _)
    have HSQ : Hid (¬ S Q) := Lib.hid (fun hh => by have := HL3.out.ld.lt Q hh; omega)
    have HL4 := Lib.hid (HL3.out.below hb4)
    have HV4 : Hid (EvB w4 V v) := Lib.hid ((hb4.block V (blk_lt HV3.out)).trans HV3.out)
    have HAP := Lib.hid (xled_apply HON.out HL4.out.ld pp cc 0 (some ⟨Q, 0, none⟩) [rq] 1 1 rfl (Nat.le_refl _) (by unfold maxLen; omega) (fun w' hk => rqs_box (HQ4.out.keep hk HSQ.out)))
    have HWOR2 := Lib.hid (fun hb => HWOR.out (applyF n m E si pp cc [rqOf v]) rfl hb)
    have HSTP2 := Lib.hid (fun hl he => HSTP.out (applyF n m E si pp cc [rqOf v]) rfl (by have := HCC.out; omega) hl he)
    rw [hrq] at HAP
    generalize applyF n m E si pp cc [rqOf v] = s2 at *
    generalize appR n m E si pp cc [rqOf v] = ys at *
    have HW4 := Lib.hid hw4
    have HVV := Lib.hid hQ
    unfold RQ.cells at HW4
    clear hw4 hQ hb4 hrq HWOR HSTP HCC
    go_wp2_with fail
    rw [← HW4.out, ← HVV.out]
    refine HAP.out.mono ?_
    rintro e w5 ⟨ra, rc, ea, ec, rfl, -, -, -, -, S5, hd5, hk5, hn5, -, -⟩
    as_aux_lemma =>
     have HL5 := Lib.hid (HL4.out.turn hd5 hk5 hn5)
     have HV5 : Hid (EvB w5 V v) := Lib.hid (HV4.out.keep hk5 HSV.out.1)
     have HI5 := Lib.hid hd5.inv
     clear hd5 hk5 hn5 y0 y1 y2 y3 y4 y5 y6 y7 HAP HL4 HV4 HW4 HL3 HV3 HQ3 HQ4 HVV
     obtain ⟨Sb9, st9, ve9, vw9, vn9, hx5, -⟩ := HL5.out.ld
     obtain ⟨mo, mc, rfl, -, -⟩ := own_shape hx5.re
     obtain ⟨-, -, -, -, c4, -, -⟩ := hx5.cells
     obtain ⟨l2, hl2⟩ : ∃ l2, l2 = s2.es.length := ⟨_, rfl⟩
     have HL2 : Hid (s2.es.length = l2 ∧ l2 ≤ 400) := Lib.hid ⟨hl2.symm, by rw [hl2]; exact HI5.out.len.2.1⟩
     rw [← hl2] at c4
     obtain ⟨x0, x1, x2, x3, x4, x5, x6, x7, x8⟩ := HV5.out.all
     have n4 : (i : Int) ≤ 400 := by have := HIL.out; omega
     have hw1 : IntKind.i64.wrap ((i : Int) + 1) = (i : Int) + 1 := by simp only [IntKind.wrap_i64]; omega
     by_cases hl : l2 = i + 1
     · have hlt : i < s2.es.length := by rw [← hl2]; omega
       obtain ⟨ge, hg, hc⟩ := hx5.evt i hlt
       subst hg
       have HAE : Hid ((s2.es.getD i default).e = s2.es[i].e) := Lib.hid (by simp [List.getD, hlt])
       have HEQ := Lib.hid (eqEV_iff s2.es[i].e v)
       have hne := fun w => neq_ev s2.es[i].e v w
       generalize s2.es[i] = dn at *
       obtain ⟨y, hy⟩ : ∃ y, y = dn.e := ⟨_, rfl⟩
       rw [← hy] at hc hne HAE HEQ
       have e0 := hc 0 (by omega)
       have e1 := hc 1 (by omega)
       have e2 := hc 2 (by omega)
       have e3 := hc 3 (by omega)
       have e4 := hc 4 (by omega)
       have e5 := hc 5 (by omega)
       have e6 := hc 6 (by omega)
       have e7 := hc 7 (by omega)
       have e8 := hc 8 (by omega)
       simp only [EV.cells, lq, Nat.add_zero] at e0 e1 e2 e3 e4 e5 e6 e7 e8
       unfold EV.cells at hne
       have n1 : (i : Int) < (l2 : Int) := by omega
       have hb : ((l2 : Int) != (i : Int) + 1) = false := by simp; omega
       generalize eqEV y v = EQ at *
       have HLL : Hid (s2.es.length = i + 1) := Lib.hid (by rw [← hl2]; exact hl)
       clear hc hx5 hl hl2 hlt hy
       go_upto_region 18 with fail
       refine wp_region_held_drew (S := fun w' => w'.cell? ⟨X, 4, none⟩ = some (.slice (some ⟨ge, 0, none⟩) l2 mc) ∧ w'.cell? ⟨V, 0, none⟩ = some (.int .i64 v.k) ∧ w'.cell? ⟨V, 1, none⟩ = some (.int .i64 v.f) ∧ w'.cell? ⟨V, 2, none⟩ = some (.int .i64 v.t) ∧ w'.cell? ⟨V, 3, none⟩ = some (.int .i64 v.a) ∧ w'.cell? ⟨V, 4, none⟩ = some (.int .i64 v.n) ∧ w'.cell? ⟨V, 5, none⟩ = some (.int .i64 v.i) ∧ w'.cell? ⟨V, 6, none⟩ = some (.int .i64 v.d) ∧ w'.cell? ⟨V, 7, none⟩ = some (.string v.h) ∧ w'.cell? ⟨V, 8, none⟩ = some (.string v.s) ∧ w'.cell? ⟨ge, i * 9, none⟩ = some (.int .i64 y.k) ∧ w'.cell? ⟨ge, i * 9 + 1, none⟩ = some (.int .i64 y.f) ∧ w'.cell? ⟨ge, i * 9 + 2, none⟩ = some (.int .i64 y.t) ∧ w'.cell? ⟨ge, i * 9 + 3, none⟩ = some (.int .i64 y.a) ∧ w'.cell? ⟨ge, i * 9 + 4, none⟩ = some (.int .i64 y.n) ∧ w'.cell? ⟨ge, i * 9 + 5, none⟩ = some (.int .i64 y.i) ∧ w'.cell? ⟨ge, i * 9 + 6, none⟩ = some (.int .i64 y.d) ∧ w'.cell? ⟨ge, i * 9 + 7, none⟩ = some (.string y.h) ∧ w'.cell? ⟨ge, i * 9 + 8, none⟩ = some (.string y.s)) (by kernel_rfl) ?_ (fun hHeld => ?_)
       · exact ⟨c4, x0, x1, x2, x3, x4, x5, x6, x7, x8, e0, e1, e2, e3, e4, e5, e6, e7, e8⟩
       refine tk 0 97 ?_
       simp only [lz]
       refine tk 1 98 ?_
       simp only [lz]
       refine tk 2 99 ?_
       simp only [lz]
       refine tk 3 100 ?_
       simp only [lz]
       refine tk 4 101 ?_
       simp only [lz]
       refine tk 5 102 ?_
       simp only [lz]
       refine tk 6 103 ?_
       simp only [lz]
       refine tk 7 104 ?_
       simp only [lz]
       refine tk 8 105 ?_
       simp only [lz]
       refine tk 9 106 ?_
       simp only [lz]
       refine tk 10 107 ?_
       simp only [lz]
       refine tk 11 108 ?_
       simp only [lz]
       refine tk 12 109 ?_
       simp only [lz]
       refine tk 13 110 ?_
       simp only [lz]
       refine tk 14 111 ?_
       simp only [lz]
       refine tk 15 112 ?_
       simp only [lz]
       refine tk 16 113 ?_
       simp only [lz]
       refine tk 17 114 ?_
       simp only [lz]
       refine tk 18 115 ?_
       simp only [lz]
       refine wpAnyH_done (by kernel_rfl) ?_ _
       clear hHeld c4 x0 x1 x2 x3 x4 x5 x6 x7 x8 e0 e1 e2 e3 e4 e5 e6 e7 e8 hne hb
       have HL6 := Lib.hid (HL5.out.below (below_drew _))
       cases EQ
       case false =>
        have HF := Lib.hid (HWOR2.out (Or.inr (by
         rw [HAE.out]
         intro e
         have := HEQ.out.2 e
         cases this)))
        have HBL := Lib.hid HL6.out.bel
        go_wp2
        go_ret2
        exact ⟨Or.inr ⟨HF.out, rfl⟩, HBL.out⟩
       case true =>
        have HAT2 := Lib.hid (HSTP2.out HLL.out (by rw [HAE.out]; exact HEQ.out.1 rfl))
        have hiN : (i : Int) < N := HIN.out
        go_wp2
        go_roundw
        case rel => exact ⟨i + 1, d8, s2, S5, by go_num, HL6.out, HAT2.out⟩
        case measure => simp [intOf]; omega
     · have hb : ((l2 : Int) != (i : Int) + 1) = true := by simp; omega
       have HF := Lib.hid (HWOR2.out (Or.inl (by rw [← hl2]; exact hl)))
       clear hx5 hl hl2
       go_upto_region 18 with fail
       refine wp_region_held_drew (S := fun w' => w'.cell? ⟨X, 4, none⟩ = some (.slice mo l2 mc)) (by kernel_rfl) ?_ (fun hHeld => ?_)
       · exact c4
       refine tk 0 97 ?_
       simp only [lz]
       refine tk 1 98 ?_
       simp only [lz]
       refine tk 2 99 ?_
       simp only [lz]
       refine tk 3 100 ?_
       simp only [lz]
       refine tk 4 101 ?_
       simp only [lz]
       refine tk 5 102 ?_
       simp only [lz]
       refine tk 6 103 ?_
       simp only [lz]
       refine tk 7 104 ?_
       simp only [lz]
       refine tk 8 105 ?_
       simp only [lz]
       refine tu 9 106 ?_
       simp only [lz]
       refine tu 10 107 ?_
       simp only [lz]
       refine tu 11 108 ?_
       simp only [lz]
       refine tu 12 109 ?_
       simp only [lz]
       refine tu 13 110 ?_
       simp only [lz]
       refine tu 14 111 ?_
       simp only [lz]
       refine tu 15 112 ?_
       simp only [lz]
       refine tu 16 113 ?_
       simp only [lz]
       refine tu 17 114 ?_
       simp only [lz]
       refine tk 18 115 ?_
       simp only [lz]
       refine wpAnyH_done (by kernel_rfl) ?_ _
       clear hHeld c4 x0 x1 x2 x3 x4 x5 x6 x7 x8 hb
       have HBL := Lib.hid (HL5.out.below (below_drew _)).bel
       go_wp2
       go_ret2
       exact ⟨Or.inr ⟨HF.out, rfl⟩, HBL.out⟩
   case neg => as_aux_lemma =>
    have HX : Hid (¬ (i : Int) < N ∨ d.2 ≠ 0) := Lib.hid (by
     by_cases h : (i : Int) < N
     · exact Or.inr (fun hd => hgo ⟨h, hd⟩)
     · exact Or.inl h)
    have hcase : ¬ (i : Int) < N ∨ ((i : Int) < N ∧ (d.2 == 0) = false) := by
     rcases HX.out with h | h
     · exact Or.inl h
     · by_cases h2 : (i : Int) < N
       · exact Or.inr ⟨h2, by simpa using h⟩
       · exact Or.inl h2
    clear hgo
    rcases hcase with h1 | ⟨h1, h2⟩
    all_goals
     go_wp2_with fail
     go_meet
     case rel => exact ⟨i, d, si, S, HLW.out, HAT.out, HX.out⟩
 case rest => as_aux_lemma =>
  obtain ⟨i, d, si, S, hlw, hat, hx⟩ := hcut
  rename World => w6
  have HLW := Lib.hid hlw
  have HAT := Lib.hid hat
  have HX := Lib.hid hx
  have HXS : Hid (S X) := Lib.hid (by
   obtain ⟨_, _, _, _, _, _, _, _, h⟩ := hlw.ld
   exact (h X).2 (Or.inr (Or.inl rfl)))
  have c3 := hlw.ck
  obtain ⟨Sb9, st9, ve9, vw9, vn9, hxd, -⟩ := hlw.ld
  have f3 := blk_frozen hxd.box 3
  clear hlw hat hx hxd HL5 HL4 HL3 HA0
  obtain ⟨TB, hTB⟩ : ∃ TB : Bool, TB = (tickB ck0 && decide (si.ck < ck0)) := ⟨_, rfl⟩
  go_upto_region 20 with fail
  go_cut [125] (fun a wx => a = .bool TB ∧ wx = w6)
  case first =>
   go_wp2_with fail
   refine (rtick9_any ck0 w6).mono ?_
   rintro e wx ⟨rfl, rfl⟩
   rename World => w6
   cases htk : tickB ck0
   all_goals
    rw [htk] at hTB
    go_wp2_with fail
    go_meet
    case rel => exact ⟨by rw [hTB]; simp, rfl⟩
  case rest =>
  obtain ⟨rfl, rfl⟩ := hcut
  rename World => w6
  have HTB := Lib.hid hTB
  clear hTB
  obtain ⟨sf, hsf⟩ : ∃ sf, sf = tickF si ck0 := ⟨_, rfl⟩
  have HSF := Lib.hid hsf
  clear hsf
  go_upto_if 125 with fail
  go_cut [] (fun wx => LW w wx S n m E sf T X B q P g d)
  case first =>
   cases TB
   case false =>
    have HT : Hid (sf = si) := Lib.hid (by
     rw [HSF.out]; unfold tickF
     have h := HTB.out
     split
     · rename_i ht
       rw [ht, Bool.true_and] at h
       have : ¬ si.ck < ck0 := by simpa using h.symm
       rw [show max si.ck ck0 = si.ck by omega]
     · rfl)
    go_wp2_with fail
    go_meet
    case rel => rw [HT.out]; exact HLW.out
   case true =>
    have HT : Hid (sf = ⟨si.b, si.l, ck0, si.es⟩) := Lib.hid (by
     rw [HSF.out]; unfold tickF
     have h := HTB.out.symm
     rw [Bool.and_eq_true, decide_eq_true_eq] at h
     rw [if_pos h.1, show max si.ck ck0 = ck0 by omega])
    have HLF : Hid (LW w (w6.setCell ⟨X, 3, none⟩ (.int .i64 ck0)) S n m E sf T X B q P g d) := Lib.hid (by
     have hk : Keeps (fun i => i = X) w6 (w6.setCell ⟨X, 3, none⟩ (.int .i64 ck0)) := (Keeps.refl (fun i => i = X) w6).setCell (p := ⟨X, 3, none⟩) (Or.inl rfl) _
     have hI := HLW.out.ld.inv.ticks ck0
     obtain ⟨Sb, st, ve, vw, vn, h1, h2, h3, h4⟩ := HLW.out.ld
     have h5 := h1.tick ck0
     rw [← HSF.out] at hI
     rw [← HT.out] at h5
     exact ⟨⟨Sb, st, ve, vw, vn, h5, hI, by rw [HT.out]; exact h3, h4⟩, HLW.out.dec.keep hk (fun e => HLW.out.pS (e ▸ HXS.out)) (Or.inr (fun e => HLW.out.gS (e ▸ HXS.out))), HLW.out.pS, HLW.out.gS, Nat.lt_of_lt_of_le HLW.out.gl hk.size, HLW.out.oP⟩)
    go_wp2_with fail
    go_meet
    case rel => exact HLF.out
  case rest => as_aux_lemma =>
  have HLF := Lib.hid hcut
  rename World => w7
  clear hcut c3 f3 HLW
  obtain ⟨Sb, st, ve, vw, vn, hxd, -⟩ := HLF.out.ld
  have HSV := Lib.hid (xledger_save hxd HLF.out.ld.inv (by
   have h := (HAT.out.inv HS0.out HI0.out).2
   rw [HSF.out]
   exact fun x hx => h x (by rw [tickF_es] at hx; exact hx)))
  clear hxd
  go_upto_region 22 with fail
  go_wp2_with fail
  refine HSV.out.mono ?_
  rintro e w8 ⟨so, sc, rfl, hsi, hb8⟩
  have HSI := Lib.hid hsi
  have HL8 := Lib.hid (HLF.out.below hb8)
  have HNO := Lib.hid (fun hb => HAT.out.none_ (HX.out.imp (fun h => by omega) id) hb)
  have HYE := Lib.hid (fun hb => HAT.out.some_ HS0.out HI0.out hb)
  rw [← HSF.out] at HNO HYE
  clear hsi hb8 HSV HLF
  have HBL := Lib.hid HL8.out.bel
  go_wp2_with fail
  refine HL8.out.end_.mono ?_
  rintro e wx ⟨rfl, rfl⟩
  rename World => w8
  cases hde : (decEnd d.1 d.2 == 0)
  case false =>
   have hb : (decEnd d.1 d.2 != 0) = true := by rw [bne, hde]; rfl
   have HF := Lib.hid (HNO.out (by
    by_cases h2 : d.2 = 0
    · refine Or.inl (fun h1 => ?_)
      rw [h1, h2] at hde
      revert hde
      decide
    · exact Or.inr (Or.inl h2)))
   generalize decEnd d.1 d.2 = de at *
   go_wp2
   go_ret2
   exact ⟨Or.inr ⟨HF.out, rfl⟩, HBL.out⟩
  case true =>
   have hde0 : decEnd d.1 d.2 = 0 := by simpa using hde
   rw [hde0]
   have HBY := Lib.hid (bytes_eq so zo (saveB sf) zs (saveB sf).length zn sc zc w8 rfl HZ.out.1 HSI.out (ints_below HZI.out HBL.out) (saveB_in sf) HZ.out.2.1)
   obtain ⟨BQ, hBQ⟩ : ∃ BQ, BQ = eqB (saveB sf) zs := ⟨_, rfl⟩
   rw [← hBQ] at HBY
   have HBQ := Lib.hid hBQ
   clear hde hde0 hBQ
   go_wp2_with fail
   refine HBY.out.mono ?_
   rintro e wx ⟨rfl, rfl⟩
   rename World => w8
   cases BQ
   case false =>
    have HF := Lib.hid (HNO.out (Or.inr (Or.inr (fun e => by
     have h := HBQ.out
     rw [e] at h
     simp [eqB] at h))))
    go_wp2
    go_ret2
    exact ⟨Or.inr ⟨HF.out, rfl⟩, HBL.out⟩
   case true =>
    have HT := Lib.hid (HYE.out (by
     have h := HBQ.out.symm
     simpa [eqB] using h))
    go_wp2
    go_ret2
    exact ⟨Or.inl ⟨sf, S, X, B, q, HT.out, rfl, HL8.out.ld⟩, HBL.out⟩
end Go.Proofs.YtkaciaehlibidaaGreat
