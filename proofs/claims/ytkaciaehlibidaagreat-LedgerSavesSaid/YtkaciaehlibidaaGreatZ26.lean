/- Parts of the proof: Lx2. -/
import Derived.Test.YtkaciaehlibidaaGreatZ22
namespace Go.Proofs.YtkaciaehlibidaaGreat
open Go.RowKit
set_option linter.unusedVariables false
set_option linter.unusedSimpArgs false
section
variable {P : Program} {md : Region.Mode} {ops : Array Oper} {Q : Exit → Act → World → Prop} {S1 : World → Prop} {tl : List Nat}
theorem walkD_start2 (k : Nat) {id : Nat} {a : Act} {w : World} (hm : P.follows .mixedOrders = true) (hk : ops.size = k) (hS : S1 w.drew) (h : S1 w.drew → walkD P .any ops Q S1 tl k (Array.replicate k false) a w.drew) : (Code.region id ops true).wp P Q a w := by
 subst hk
 exact walkD_start hm hS h
theorem walkD_hub (fh : Nat) (lh : Array Bool) (Mid : Array Value → Array Value → World → Prop) {fuel : Nat} {l0 : Array Bool} {t0 : Array Value} {df : _} {w0 : World} (h1 : ∀ t w, Mid t0 t w → walkD P md ops Q S1 tl fh lh ⟨t, df⟩ w)
 (h2 : (∀ listed t w, listed = lh → Mid t0 t w → walkD P md ops Q S1 tl fh listed ⟨t, df⟩ w) → walkD P md ops Q S1 tl fuel l0 ⟨t0, df⟩ w0) : walkD P md ops Q S1 tl fuel l0 ⟨t0, df⟩ w0 := h2 (fun _ t w hl hm => hl ▸ h1 t w hm)
end
theorem P3.sub {Sb S : Nat → Prop} {W w0 w : World} {n m : Nat} {b : Nat → Nat → Int} {l : List XR} {X B q : Nat} {bx bx' : List (Nat × Obj)} {cs : Array Value} {ve : Value} {ne : Nat} {xe : List Value} {vw : Value} {nw : Nat} {xw : List Value} {vn : Value} {nn : Nat} {xn : List Value} (h : P3 Sb S W w0 n m b l X B q w bx cs ve ne xe vw nw xw vn nn xn) (hs : ∀ x ∈ bx', x ∈ bx) : P3 Sb S W w0 n m b l X B q w bx' cs ve ne xe vw nw xw vn nn xn :=
 ⟨h.xb, h.box, h.re, h.rw_, h.rn, h.nX, h.aE, h.aW, h.aN, h.wn, fun x hx => h.bxs x (hs x hx), h.kp, h.sX, h.sW, h.wW⟩
theorem P3.stE {ops : Array Oper} {o : Oper} {a : Act} {K : Act → World → Prop} {Qe : Exit → Act → World → Prop} {Ee : Prop} {Sb S : Nat → Prop} {W w0 w : World} {n m : Nat} {b : Nat → Nat → Int} {l : List XR} {X B q : Nat} {bx : List (Nat × Obj)} {cs : Array Value} {ve : Value} {ne : Nat} {xe : List Value} {vw : Value} {nw : Nat} {xw : List Value} {vn : Value} {nn : Nat} {xn : List Value} (h : P3 Sb S W w0 n m b l X B q w bx cs ve ne xe vw nw xw vn nn xn) (pp : Nat) (x : EV) (hb : (pp, .cells x.cells 55) ∈ bx) (hgd : o.guard = none) (s y : Operand)
 (ho : o.op = .call { callee := .builtin .append, args := #[s, y], argTypes := #[35, 35] }) (hs : a.eval s = ve) (hy : a.eval y = .slice (some ⟨pp, 0, none⟩) 1 1) (hl : ne ≤ 400)
 (k : ∀ ao cap w', P3 Sb S W w0 n m b l X B q w' bx cs (.slice ao (ne + 1) cap) (ne + 1) (xe ++ x.list) vw nw xw vn nn xn → K (a.put o.dst (.slice ao (ne + 1) cap)) w') : if Region.wanted o (yielded ops a.tmps) = true then Oper.wp Tryz.prog o a w K Qe else Ee := by
 obtain ⟨i9, hi90, hi91, hi92, hi93⟩ := info_parts Try_infoE9
 exact step_append_any hgd s y _ ho 55 i9 _ 9 88 Tryz.underlying35 hi90 hi91 hi92 hi93 rfl (by decide) ve ne _ hs h.re (some ⟨pp, 0, none⟩) 1 1 x.list hy (by rfl) (fun e => by cases e) (src_box (h.bxs _ hb).1) (ev_one x) (by unfold maxLen; omega) (by omega) (fun ao cap w' hown hgrow hat _ => k ao cap w' (h.appE hown hgrow hat))
theorem P3.stW {ops : Array Oper} {o : Oper} {a : Act} {K : Act → World → Prop} {Qe : Exit → Act → World → Prop} {Ee : Prop} {Sb S : Nat → Prop} {W w0 w : World} {n m : Nat} {b : Nat → Nat → Int} {l : List XR} {X B q : Nat} {bx : List (Nat × Obj)} {cs : Array Value} {ve : Value} {ne : Nat} {xe : List Value} {vw : Value} {nw : Nat} {xw : List Value} {vn : Value} {nn : Nat} {xn : List Value} (h : P3 Sb S W w0 n m b l X B q w bx cs ve ne xe vw nw xw vn nn xn) (pp : Nat) (p : Int) (hb : (pp, .cells #[.int .i64 p] 3) ∈ bx) (hgd : o.guard = none) (s y : Operand)
 (ho : o.op = .call { callee := .builtin .append, args := #[s, y], argTypes := #[60, 60] }) (hs : a.eval s = vw) (hy : a.eval y = .slice (some ⟨pp, 0, none⟩) 1 1) (hl : nw ≤ 400)
 (k : ∀ ao cap w', P3 Sb S W w0 n m b l X B q w' bx cs ve ne xe (.slice ao (nw + 1) cap) (nw + 1) (xw ++ [.int .i64 p]) vn nn xn → K (a.put o.dst (.slice ao (nw + 1) cap)) w') : if Region.wanted o (yielded ops a.tmps) = true then Oper.wp Tryz.prog o a w K Qe else Ee := by
 obtain ⟨i1, hi10, hi11, hi12, hi13⟩ := info_parts Try_infoInt
 exact step_append_any hgd s y _ ho 3 i1 _ 1 8 Tryz.underlying60 hi10 hi11 hi12 hi13 rfl (by decide) vw nw _ hs h.rw_ (some ⟨pp, 0, none⟩) 1 1 [.int .i64 p] hy (by rfl) (fun e => by cases e) (src_box (h.bxs _ hb).1) (int_one p) (by unfold maxLen; omega) (by omega) (fun ao cap w' hown hgrow hat _ => k ao cap w' (h.appW hown hgrow hat))
theorem P3.stN {ops : Array Oper} {o : Oper} {a : Act} {K : Act → World → Prop} {Qe : Exit → Act → World → Prop} {Ee : Prop} {Sb S : Nat → Prop} {W w0 w : World} {n m : Nat} {b : Nat → Nat → Int} {l : List XR} {X B q : Nat} {bx : List (Nat × Obj)} {cs : Array Value} {ve : Value} {ne : Nat} {xe : List Value} {vw : Value} {nw : Nat} {xw : List Value} {vn : Value} {nn : Nat} {xn : List Value} (h : P3 Sb S W w0 n m b l X B q w bx cs ve ne xe vw nw xw vn nn xn) (pp : Nat) (p : Int) (hb : (pp, .cells #[.int .i64 p] 3) ∈ bx) (hgd : o.guard = none) (s y : Operand)
 (ho : o.op = .call { callee := .builtin .append, args := #[s, y], argTypes := #[60, 60] }) (hs : a.eval s = vn) (hy : a.eval y = .slice (some ⟨pp, 0, none⟩) 1 1) (hl : nn ≤ 400)
 (k : ∀ ao cap w', P3 Sb S W w0 n m b l X B q w' bx cs ve ne xe vw nw xw (.slice ao (nn + 1) cap) (nn + 1) (xn ++ [.int .i64 p]) → K (a.put o.dst (.slice ao (nn + 1) cap)) w') : if Region.wanted o (yielded ops a.tmps) = true then Oper.wp Tryz.prog o a w K Qe else Ee := by
 obtain ⟨i1, hi10, hi11, hi12, hi13⟩ := info_parts Try_infoInt
 exact step_append_any hgd s y _ ho 3 i1 _ 1 8 Tryz.underlying60 hi10 hi11 hi12 hi13 rfl (by decide) vn nn _ hs h.rn (some ⟨pp, 0, none⟩) 1 1 [.int .i64 p] hy (by rfl) (fun e => by cases e) (src_box (h.bxs _ hb).1) (int_one p) (by unfold maxLen; omega) (by omega) (fun ao cap w' hown hgrow hat _ => k ao cap w' (h.appN hown hgrow hat))
section
variable {Sb S : Nat → Prop} {W w0 w : World} {n m : Nat} {b : Nat → Nat → Int} {l : List XR} {X B q : Nat} {bx : List (Nat × Obj)} {ve : Value} {ne : Nat} {xe : List Value} {vw : Value} {nw : Nat} {xw : List Value} {vn : Value} {nn : Nat} {xn : List Value} {R V : Nat} {x : EV} {r : RQ}
theorem P3.held {c0 c1 c2 c3 c4 c5 c6 : Value} (h : P3 Sb S W w0 n m b l X B q w bx #[c0, c1, c2, c3, c4, c5, c6] ve ne xe vw nw xw vn nn xn) (hV : (V, .cells x.cells 55) ∈ bx) :
 w.cell? ⟨X, 3, none⟩ = some c3 ∧ w.cell? ⟨X, 4, none⟩ = some c4 ∧ w.cell? ⟨X, 5, none⟩ = some c5 ∧ w.cell? ⟨X, 6, none⟩ = some c6 ∧ w.cell? ⟨V, 0, none⟩ = some (.int .i64 x.k) ∧ w.cell? ⟨V, 1, none⟩ = some (.int .i64 x.f) ∧ w.cell? ⟨V, 2, none⟩ = some (.int .i64 x.t) ∧ w.cell? ⟨V, 3, none⟩ = some (.int .i64 x.a) ∧ w.cell? ⟨V, 4, none⟩ = some (.int .i64 x.n) ∧ w.cell? ⟨V, 5, none⟩ = some (.int .i64 x.i) ∧ w.cell? ⟨V, 6, none⟩ = some (.int .i64 x.d) ∧ w.cell? ⟨V, 7, none⟩ = some (.string x.h) ∧ w.cell? ⟨V, 8, none⟩ = some (.string x.s) :=
 ⟨blk_cell h.box 3, blk_cell h.box 4, blk_cell h.box 5, blk_cell h.box 6, EvB.all (x := x) (h.bxs _ hV).1⟩
theorem P3.leaf {E p : Int} {s : LS} {ln : Nat} {st : Value} {cs : Array Value} (h : P3 Sb S W w0 n m b l X B q w bx cs ve (ln + 1) (s.evs.flatMap EV.list ++ x.list) vw (ln + 1) (whoL s ++ [.int .i64 p]) vn (ln + 1) (whenL s ++ [.int .i64 s.ck]))
 (hcs : cs = #[st, .int .i64 E, .pointer (some ⟨B, 0, none⟩), .int .i64 s.ck, ve, vw, vn]) (hl : s.es.length = ln) (hSW : ∀ i, Sb i → S i ∨ w0.heap.size ≤ i) (hR : (R, .cells r.cells 52) ∈ bx) (hZ : (R + 1, .cells #[.int .i64 0, .int .i64 0] 50) ∈ bx) (hV : (V, .cells x.cells 55) ∈ bx) :
 XDat Sb W w n m E ⟨b, l, s.ck, s.es ++ [⟨p, s.ck, x⟩]⟩ X B q st ve vw vn ∧ ((∀ i, xfp Sb X ve vw vn i → (S i ∨ w0.heap.size ≤ i) ∧ i ≠ R + 1) ∧ RqB w R r ∧ RpB w (R + 1) 0 0 ∧ EvB w V x ∧ Keeps S w0 w) := by
 subst hcs
 have e1 : ((s.es ++ [⟨p, s.ck, x⟩] : List DN).map DN.e).flatMap EV.list = s.evs.flatMap EV.list ++ x.list := by simp [LS.evs]
 have e2 : (s.es ++ [⟨p, s.ck, x⟩] : List DN).map (fun d => Value.int .i64 d.p) = whoL s ++ [.int .i64 p] := by simp [whoL]
 have e3 : (s.es ++ [⟨p, s.ck, x⟩] : List DN).map (fun d => Value.int .i64 d.c) = whenL s ++ [.int .i64 s.ck] := by simp [whenL]
 have e4 : (s.es ++ [⟨p, s.ck, x⟩] : List DN).length = ln + 1 := by rw [List.length_append, List.length_singleton, hl]
 have b1 := h.bxs _ hZ
 refine ⟨P3.dat (S := S) (w0 := w0) (by rw [e1, e2, e3, e4]; exact h), fun i hi => ?_, (h.bxs _ hR).1, b1.1, (h.bxs _ hV).1, h.kp⟩
 rcases hi with e | e | e | e | e
 · exact ⟨hSW i e, fun h => b1.2.1 (h ▸ e)⟩
 · exact ⟨Or.inl (by rw [e]; exact h.sX), fun h => b1.2.2.1 (h.symm.trans e)⟩
 · exact ⟨(h.aE i e).2, fun h => b1.2.2.2.1 (h ▸ e)⟩
 · exact ⟨(h.aW i e).2, fun h => b1.2.2.2.2.1 (h ▸ e)⟩
 · exact ⟨(h.aN i e).2, fun h => b1.2.2.2.2.2 (h ▸ e)⟩
end
section
variable {S : Nat → Prop} {W w : World} {n m : Nat} {E : Int} {s : LS} {T : Nat → Int} {X B q : Nat}
set_option maxRecDepth 100000 in
set_option maxHeartbeats 40000000 in
theorem xled_one (h : XL S W w n m E s T X B q) (p : Int) (r : RQ) :
 Calls Tryz.prog 55 #[.pointer (some ⟨X, 0, none⟩), .int .i64 p, .agg r.cells] w fun e w' => e = .returned (.agg #[.int .i64 (doesF n m E s p r).c, .int .i64 (doesF n m E s p r).i]) ∧ XLPost S W w n m E (stepF n m E p s r) T X B q w' := by
 obtain ⟨Sb, st, ve, vw, vn, hd, hI, hns, hS⟩ := h
 have HI := Lib.hid hI
 have HNS := Lib.hid hns
 have HSS := Lib.hid hS
 obtain ⟨D, hD⟩ : ∃ D, D = doesF n m E s p r := ⟨_, rfl⟩
 obtain ⟨s2, hs2⟩ : ∃ s2, s2 = stepF n m E p s r := ⟨_, rfl⟩
 rw [← hD, ← hs2]
 have HD := Lib.hid hD
 have HS2 := Lib.hid hs2
 obtain ⟨w2, hw2⟩ : ∃ w2, w2 = (w.alloc (.cells r.cells 52)).alloc (.cells #[.int .i64 0, .int .i64 0] 50) := ⟨_, rfl⟩
 obtain ⟨R, hR⟩ : ∃ R, R = w.heap.size := ⟨_, rfl⟩
 have hb2 : Below w.heap.size w w2 := by rw [hw2]; exact ((Below.refl _ _).alloc (Nat.le_refl _) _).alloc (by simp) _
 have HR2 : Hid (RqB w2 R r) := Lib.hid (by rw [hw2, hR]; exact (Below.heap_alloc _ _ _ (by simp)).trans (heap_alloc_new w _))
 have HZ2 : Hid (RpB w2 (R + 1) 0 0) := Lib.hid (by rw [hw2, hR]; have := heap_alloc_new (w.alloc (.cells r.cells 52)) (.cells #[.int .i64 0, .int .i64 0] 50); simpa [RpB] using this)
 have HX2 := Lib.hid (hd.below hb2)
 have HWS := Lib.hid hd.bel.size
 have HSWW : Hid (∀ i, S i → W.heap.size ≤ i) := Lib.hid (fun i hi => hd.new i ((hS i).1 hi))
 have HB2 := Lib.hid hb2
 have HLT : Hid (∀ i, xfp Sb X ve vw vn i → i < R) := Lib.hid (fun i hi => by rw [hR]; exact hd.lt i hi)
 have HW2 := Lib.hid hw2
 have HRR := Lib.hid hR
 have HN16 : Hid (n ≤ 16) := Lib.hid hI.bi.good.n16
 unfold RQ.cells at HW2
 unfold RQ.cells
 clear hw2 hR hb2 hd hI hns hS hD hs2
 go_enter Tryz.func55, Tryz.ntmps55
 go_upto_region 1 with fail
 rw [← HW2.out, ← HRR.out]
 obtain ⟨r0, r1, r2, r3, r4, r5, r6, r7⟩ := HR2.out.all
 have HMR := Lib.hid (mayReq r w2)
 unfold RQ.cells at HMR
 rw [mayRQ_okB] at HMR
 go_wp2_with fail
 refine HMR.out.mono ?_
 rintro e w3 ⟨rfl, hb3⟩
 have HR3 : Hid (RqB w3 R r) := Lib.hid ((hb3.block R (blk_lt HR2.out)).trans HR2.out)
 have HZ3 : Hid (RpB w3 (R + 1) 0 0) := Lib.hid ((hb3.block (R + 1) (blk_lt HZ2.out)).trans HZ2.out)
 have HX3 := Lib.hid (HX2.out.below hb3)
 have HB3 := Lib.hid (below_step HB2.out hb3)
 clear hb3 r0 r1 r2 r3 r4 r5 r6 r7 HR2 HZ2 HX2 HMR HW2
 obtain ⟨-, -, c2, c3, -, -, -⟩ := HX3.out.cells
 obtain ⟨Sp, v, hk, -, -, -⟩ := HX3.out.xb
 obtain ⟨k0, -, -⟩ := hk.cells
 obtain ⟨L, lcap, G, C, hpl, -, -⟩ := hk.pu
 have l0 := hpl.cell0
 obtain ⟨r0, r1, r2, r3, r4, r5, r6, r7⟩ := HR3.out.all
 clear hpl hk
 have HOK3 : Hid (∀ i, i = R + 1 → ¬ xfp Sb X ve vw vn i) := Lib.hid (fun i hi hh => by have := HLT.out i hh; omega)
 by_cases hok : okB r = true ∧ 0 ≤ p ∧ p < n
 case neg =>
  have HDN : Hid (D = ⟨1, 0, ev00 r, s.b, s.l⟩) := Lib.hid (by rw [HD.out]; unfold doesF; rw [if_neg hok])
  have HSN : Hid (s2 = s) := Lib.hid (by
   rw [HS2.out]
   unfold stepF
   rw [← HD.out, HDN.out]
   rfl)
  have y0 := blk_frozen HZ3.out 0
  have y1 := blk_frozen HZ3.out 1
  have z0 := blk_cell HZ3.out 0
  have z1 := blk_cell HZ3.out 1
  simp only [lq] at z0 z1
  obtain ⟨wF, hwF⟩ : ∃ wF, wF = fillR w3 (R + 1) 1 0 := ⟨_, rfl⟩
  have HZF : Hid (RpB wF (R + 1) 1 0) := Lib.hid (by rw [hwF]; exact fillR_box HZ3.out 1 0)
  have HPF : Hid (XLPost S W w n m E s T X B q wF) := Lib.hid (by
   have hkf : Keeps (fun k => k = R + 1) w3 wF := by rw [hwF]; exact fillR_keeps w3 (R + 1) 1 0
   refine ⟨S, ⟨Sb, st, ve, vw, vn, HX3.out.keep hkf HOK3.out (fun i hi => by rw [hi]; have := HWS.out; have := HRR.out; omega), HI.out, HNS.out, HSS.out⟩, (Keeps.of_below HB3.out).trans (hkf.mono (S' := fun k => k = R + 1) (fun i _ hi => hi)) (fun i hi => Or.inr (by rw [hi, HRR.out]; omega)), fun i hi => Or.inl hi⟩)
  unfold fillR at hwF
  cases ho : okB r
  case' false =>
   go_wp2_with fail
  case' true =>
   by_cases hp0 : p < 0
   case' pos =>
    go_wp2_with fail
   case' neg =>
    have hpn : (n : Int) ≤ p := by
     by_cases hh : p < n
     · exact absurd ⟨ho, by omega, hh⟩ hok
     · omega
    go_wp2_with fail
  all_goals
   rw [← hwF]
   clear hwF
   have z0 := blk_cell HZF.out 0
   have z1 := blk_cell HZF.out 1
   simp only [lq] at z0 z1
   refine bodyPost_ret (v := .agg #[.int .i64 1, .int .i64 0]) (by simp [results, Tryz.results55, go_sem, z0, z1]) rfl ?_
   rw [HDN.out, HSN.out]
   exact ⟨rfl, HPF.out⟩
 case pos =>
 obtain ⟨ho, p0, pn⟩ := hok
 have HOP := Lib.hid (And.intro ho (And.intro p0 pn))
 obtain ⟨w4, hw4⟩ : ∃ w4, w4 = w3.alloc (.cells (evR r p).cells 55) := ⟨_, rfl⟩
 obtain ⟨V, hV⟩ : ∃ V, V = w3.heap.size := ⟨_, rfl⟩
 have hb4 : Below w3.heap.size w3 w4 := by rw [hw4]; exact (Below.refl _ _).alloc (Nat.le_refl _) _
 have HV4 : Hid (EvB w4 V (evR r p)) := Lib.hid (by rw [hw4, hV]; exact heap_alloc_new _ _)
 have HR4 : Hid (RqB w4 R r) := Lib.hid ((hb4.block R (blk_lt HR3.out)).trans HR3.out)
 have HZ4 : Hid (RpB w4 (R + 1) 0 0) := Lib.hid ((hb4.block (R + 1) (blk_lt HZ3.out)).trans HZ3.out)
 have HX4 := Lib.hid (HX3.out.below hb4)
 have HB4 := Lib.hid (below_step HB3.out hb4)
 have HVN : Hid (V ≠ R ∧ V ≠ R + 1 ∧ R + 1 < V) := Lib.hid ⟨fun e => by have := blk_lt HR3.out; omega, fun e => by have := blk_lt HZ3.out; omega, by have := blk_lt HZ3.out; omega⟩
 have HW4 := Lib.hid hw4
 have HVV := Lib.hid hV
 unfold evR EV.cells at HW4
 clear hw4 hV hb4
 go_upto_region 5 with fail
 rw [← HW4.out, ← HVV.out]
 clear HW4 HVV HX3 HR3 HZ3 HB3 c2 c3 k0 l0 r0 r1 r2 r3 r4 r5 r6 r7
 have HSB : Hid (∀ i, Sb i → S i) := Lib.hid (fun i hi => (HSS.out i).2 (Or.inl hi))
 have HK4 : Hid (Keeps S w w4) := Lib.hid (Keeps.of_below HB4.out)
 have HVW : Hid (w.heap.size ≤ V ∧ W.heap.size ≤ V) := Lib.hid (by have := HVN.out.2.2; have := HRR.out; have := HWS.out; omega)
 have hkinds := okB_kind ho
 clear ho p0 pn
 obtain ⟨-, -, c2, c3, -, -, -⟩ := HX4.out.cells
 have k0 := HX4.out.xb.cells
 obtain ⟨r0, r1, r2, r3, r4, r5, r6, r7⟩ := HR4.out.all
 go_upto_block 0 with fail
 go_cut [8] (fun a wx => a = .int .i64 D.c ∧ OneR S Sb W w n m E s X B q st ve vw vn R V r D wx)
 case first => as_aux_lemma =>
  rcases hkinds with hk | hk | hk | hk
  · have HDE := Lib.hid (HD.out.trans (does_1 HOP.out hk))
    have HEQ : Hid (evR r p = ev01 r p) := Lib.hid (evR_1 HOP.out.1 hk)
    have hb1 : (r.k == 1) = true := by simp [hk]
    clear hk
    have HFU := Lib.hid (xled_full HX4.out HI.out 1 (by omega) (by omega))
    go_wp2_with fail
    refine HFU.out.mono ?_
    rintro e w5 ⟨rfl, hb5⟩
    have HX5 := Lib.hid (HX4.out.below hb5)
    have HR5 : Hid (RqB w5 R r) := Lib.hid ((hb5.block R (blk_lt HR4.out)).trans HR4.out)
    have HZ5 : Hid (RpB w5 (R + 1) 0 0) := Lib.hid ((hb5.block (R + 1) (blk_lt HZ4.out)).trans HZ4.out)
    have HV5 : Hid (EvB w5 V (evR r p)) := Lib.hid ((hb5.block V (blk_lt HV4.out)).trans HV4.out)
    have HB5 := Lib.hid (below_step HB4.out hb5)
    have HK5 : Hid (Keeps S w w5) := Lib.hid (Keeps.of_below HB5.out)
    clear hb5 HFU c2 c3 k0 r0 r1 r2 r3 r4 r5 r6 r7
    obtain ⟨-, -, c2, c3, -, -, -⟩ := HX5.out.cells
    have k0 := HX5.out.xb.cells
    obtain ⟨r0, r1, r2, r3, r4, r5, r6, r7⟩ := HR5.out.all
    cases hroom : room E s 1
    case false =>
     have HDX : Hid (D = ⟨12, 0, ev01 r p, s.b, s.l⟩) := Lib.hid (by rw [HDE.out, if_neg (by rw [hroom]; simp)])
     clear hroom
     go_wp2_with fail
     go_meet
     case rel => exact ⟨by rw [HDX.out], oneR_same HX5.out HK5.out HR5.out HZ5.out HV5.out (by rw [HDX.out]) (by rw [HDX.out]) (by rw [HDX.out]; intro h; simp at h)⟩
    case true =>
     by_cases hn0 : r.n = 0
     · have HDX : Hid (D = ⟨1, 0, ev01 r p, s.b, s.l⟩) := Lib.hid (by rw [HDE.out, if_pos hroom, if_pos hn0])
       have hb0 : (r.n == 0) = true := by simp [hn0]
       clear hroom hn0
       go_wp2_with fail
       go_meet
       case rel => exact ⟨by rw [HDX.out], oneR_same HX5.out HK5.out HR5.out HZ5.out HV5.out (by rw [HDX.out]) (by rw [HDX.out]) (by rw [HDX.out]; intro h; simp at h)⟩
     · have HDX : Hid (D = ⟨moveE n m s.b p r.t r.a r.n, 0, ev01 r p, moveN n m s.b p r.t r.a r.n, s.l⟩) := Lib.hid (by rw [HDE.out, if_pos hroom, if_neg hn0])
       have hb0 : (r.n == 0) = false := by simp [hn0]
       clear hroom hn0
       have hd0 := below_drew w5
       have HXd := Lib.hid (HX5.out.below hd0)
       have HRd : Hid (RqB w5.drew R r) := Lib.hid HR5.out
       have HZd : Hid (RpB w5.drew (R + 1) 0 0) := Lib.hid HZ5.out
       have HVd : Hid (EvB w5.drew V (evR r p)) := Lib.hid HV5.out
       have HKd : Hid (Keeps S w w5.drew) := Lib.hid HK5.out.drew
       clear hd0
       go_upto_region 7 with fail
       refine wp_region_held_drew (S := fun w' => w'.cell? ⟨X, 2, none⟩ = some (.pointer (some ⟨B, 0, none⟩)) ∧ w'.cell? ⟨B, 0, none⟩ = some (.pointer (some ⟨q, 0, none⟩)) ∧ w'.cell? ⟨R, 1, none⟩ = some (.int .i64 r.t) ∧ w'.cell? ⟨R, 2, none⟩ = some (.int .i64 r.a) ∧ w'.cell? ⟨R, 3, none⟩ = some (.int .i64 r.n)) (by kernel_rfl) ?_ (fun hHeld => ?_)
       · exact ⟨c2, k0, r1, r2, r3⟩
       refine tk 0 54 ?_
       simp only [lz]
       refine tk 1 55 ?_
       simp only [lz]
       refine tk 2 56 ?_
       simp only [lz]
       refine tk 3 57 ?_
       simp only [lz]
       refine tk 4 58 ?_
       simp only [lz]
       refine tk 5 59 ?_
       simp only [lz]
       refine tk 6 60 ?_
       simp only [lz]
       refine tk 7 61 ?_
       simp only [lz]
       refine tk 8 62 ?_
       simp only [lz]
       refine tk 9 63 ?_
       simp only [lz]
       refine tk 10 64 ?_
       simp only [lz]
       refine tk 11 65 ?_
       simp only [lz]
       refine tk 12 66 ?_
       simp only [lz]
       refine tk 13 67 ?_
       simp only [lz]
       refine wpAnyH_ready (rs := [14]) (by kernel_rfl) (by simp) ?_
       refine AllReadyH.cons rfl (fun K hK => ?_) AllReadyH.nil
       go_simp
       refine (XB.move HXd.out.xb HI.out.bi p r.t r.a r.n).mono ?_
       rintro e w9 ⟨rfl, hp⟩
       have HON : Hid (OneR S Sb W w n m E s X B q st ve vw vn R V r D w9) := Lib.hid (oneR_book HXd.out HKd.out HRd.out HZd.out HVd.out (fun _ => by rw [HDX.out]; exact HEQ.out) HLT.out HVN.out.2.2 HSB.out (by rw [HDX.out]; exact hp))
       clear hp c2 c3 k0 r0 r1 r2 r3 r4 r5 r6 r7
       obtain ⟨S9, hx9, -, -, hr9, -, v9, hv9, -⟩ := HON.out
       obtain ⟨-, -, c2, c3, -, -, -⟩ := hx9.cells
       have k0 := hx9.xb.cells
       obtain ⟨r0, r1, r2, r3, r4, r5, r6, r7⟩ := hr9.all
       have y5 := blk_frozen hv9 5
       have z5 := blk_cell hv9 5
       simp only [EV.cells, lq] at z5
       clear hx9 hr9
       dsimp only
       go_wp2_with fail
       refine hK.out _ _ ?_ (fun hHeld => ?_)
       · exact ⟨c2, k0, r1, r2, r3⟩
       clear hK K
       try simp only [Act.put, lg]
       try simp only [lz]
       refine tk 15 8 ?_
       simp only [lz]
       refine wpAnyH_done (by kernel_rfl) ?_ _
       clear hHeld y5 z5 hv9 c2 c3 k0 r0 r1 r2 r3 r4 r5 r6 r7
       go_wp2_with fail
       go_meet
       case rel => exact ⟨by rw [HDX.out], HON.out⟩
  · have HDE := Lib.hid (HD.out.trans (does_2 HOP.out hk))
    have hb1 : (r.k == 1) = false := by simp [hk]
    have hb2 : (r.k == 2) = true := by simp [hk]
    clear hk
    have HFU := Lib.hid (xled_full HX4.out HI.out 2 (by omega) (by omega))
    go_wp2_with fail
    refine HFU.out.mono ?_
    rintro e w5 ⟨rfl, hb5⟩
    have HX5 := Lib.hid (HX4.out.below hb5)
    have HR5 : Hid (RqB w5 R r) := Lib.hid ((hb5.block R (blk_lt HR4.out)).trans HR4.out)
    have HZ5 : Hid (RpB w5 (R + 1) 0 0) := Lib.hid ((hb5.block (R + 1) (blk_lt HZ4.out)).trans HZ4.out)
    have HV5 : Hid (EvB w5 V (evR r p)) := Lib.hid ((hb5.block V (blk_lt HV4.out)).trans HV4.out)
    have HB5 := Lib.hid (below_step HB4.out hb5)
    have HK5 : Hid (Keeps S w w5) := Lib.hid (Keeps.of_below HB5.out)
    clear hb5 HFU c2 c3 k0 r0 r1 r2 r3 r4 r5 r6 r7
    obtain ⟨-, -, c2, c3, -, -, -⟩ := HX5.out.cells
    have k0 := HX5.out.xb.cells
    obtain ⟨r0, r1, r2, r3, r4, r5, r6, r7⟩ := HR5.out.all
    cases hroom : room E s 2
    case false =>
     have HDX : Hid (D = ⟨12, 0, ev00 r, s.b, s.l⟩) := Lib.hid (by rw [HDE.out, if_neg (by rw [hroom]; simp)])
     clear hroom
     go_wp2_with fail
     go_meet
     case rel => exact ⟨by rw [HDX.out], oneR_same HX5.out HK5.out HR5.out HZ5.out HV5.out (by rw [HDX.out]) (by rw [HDX.out]) (by rw [HDX.out]; intro h; simp at h)⟩
    case true =>
     have HDX0 : Hid (D = ⟨lockE n m s.b p r.t r.a r.n r.h r.d s.ck, lockI n m s.b s.l p r.t r.a r.n r.h r.d s.ck, ev02 r p (lockI n m s.b s.l p r.t r.a r.n r.h r.d s.ck), lockB n m s.b p r.t r.a r.n r.h r.d s.ck, lockL n m s.b s.l p r.t r.a r.n r.h r.d s.ck⟩) := Lib.hid (by rw [HDE.out, if_pos hroom])
     have HLK := Lib.hid (fun w' (h : XB Sb W w' n m s.b s.l B q) => XB.lock h HI.out.bi p r.t r.a r.n r.h r.d s.ck)
     generalize lockI n m s.b s.l p r.t r.a r.n r.h r.d s.ck = li at *
     generalize lockE n m s.b p r.t r.a r.n r.h r.d s.ck = le at *
     generalize lockB n m s.b p r.t r.a r.n r.h r.d s.ck = lb at *
     generalize lockL n m s.b s.l p r.t r.a r.n r.h r.d s.ck = ll at *
     obtain ⟨DX, hdx⟩ : ∃ DX : DA, DX = ⟨1, li, ev02 r p li, lb, ll⟩ := ⟨_, rfl⟩
     have HDX := Lib.hid hdx
     clear hroom hdx
     have hd0 := below_drew w5
     have HXd := Lib.hid (HX5.out.below hd0)
     have HRd : Hid (RqB w5.drew R r) := Lib.hid HR5.out
     have HZd : Hid (RpB w5.drew (R + 1) 0 0) := Lib.hid HZ5.out
     have HVd : Hid (EvB w5.drew V (evR r p)) := Lib.hid HV5.out
     have HKd : Hid (Keeps S w w5.drew) := Lib.hid HK5.out.drew
     clear hd0
     go_upto_region 15 with fail
     refine wp_region_held_drew (S := fun w' => w'.cell? ⟨X, 2, none⟩ = some (.pointer (some ⟨B, 0, none⟩)) ∧ w'.cell? ⟨X, 3, none⟩ = some (.int .i64 s.ck) ∧ w'.cell? ⟨R, 1, none⟩ = some (.int .i64 r.t) ∧ w'.cell? ⟨R, 2, none⟩ = some (.int .i64 r.a) ∧ w'.cell? ⟨R, 3, none⟩ = some (.int .i64 r.n) ∧ w'.cell? ⟨R, 6, none⟩ = some (.string r.h) ∧ w'.cell? ⟨R, 5, none⟩ = some (.int .i64 r.d)) (by kernel_rfl) ?_ (fun hHeld => ?_)
     · exact ⟨c2, c3, r1, r2, r3, r6, r5⟩
     refine tk 0 81 ?_
     simp only [lz]
     refine tk 1 82 ?_
     simp only [lz]
     refine tk 2 83 ?_
     simp only [lz]
     refine tk 3 84 ?_
     simp only [lz]
     refine tk 4 85 ?_
     simp only [lz]
     refine tk 5 86 ?_
     simp only [lz]
     refine tk 6 87 ?_
     simp only [lz]
     refine tk 7 88 ?_
     simp only [lz]
     refine tk 8 89 ?_
     simp only [lz]
     refine tk 9 90 ?_
     simp only [lz]
     refine tk 10 91 ?_
     simp only [lz]
     refine tk 11 92 ?_
     simp only [lz]
     refine tk 12 93 ?_
     simp only [lz]
     refine tk 13 94 ?_
     simp only [lz]
     refine tk 14 95 ?_
     simp only [lz]
     refine tk 15 96 ?_
     simp only [lz]
     refine tk 16 97 ?_
     simp only [lz]
     refine tk 17 98 ?_
     simp only [lz]
     refine tk 18 99 ?_
     simp only [lz]
     refine wpAnyH_ready (rs := [19]) (by kernel_rfl) (by simp) ?_
     refine AllReadyH.cons rfl (fun K hK => ?_) AllReadyH.nil
     go_simp
     refine (HLK.out w5.drew HXd.out.xb).mono ?_
     rintro e w9 ⟨rfl, hp⟩
     have HV9 : Hid (EvB w9 V (evR r p)) := Lib.hid (by
      obtain ⟨S', h1, h2, h3⟩ := hp
      exact HVd.out.keep h2 (fun hh => by have := HLT.out V (Or.inl hh); have := HVN.out.2.2; omega))
     have HON : Hid (OneR S Sb W w n m E s X B q st ve vw vn R V r DX w9) := Lib.hid (oneR_book HXd.out HKd.out HRd.out HZd.out HVd.out (fun h => by rw [HDX.out] at h; simp at h) HLT.out HVN.out.2.2 HSB.out (by rw [HDX.out]; exact hp))
     clear hp c2 c3 k0 r0 r1 r2 r3 r4 r5 r6 r7
     obtain ⟨S9, hx9, -, -, hr9, -⟩ := HON.out
     obtain ⟨-, -, c2, c3, -, -, -⟩ := hx9.cells
     obtain ⟨r0, r1, r2, r3, r4, r5, r6, r7⟩ := hr9.all
     have y5 := blk_frozen HV9.out 5
     have z5 := blk_cell HV9.out 5
     simp only [EV.cells, lq] at z5
     clear hx9 hr9
     dsimp only
     go_wp2_with fail
     refine hK.out _ _ ?_ (fun hHeld => ?_)
     · exact ⟨c2, c3, r1, r2, r3, r6, r5⟩
     clear hK K
     try simp only [Act.put, lg]
     try simp only [lz]
     refine tk 20 80 ?_
     simp only [lz]
     refine tk 21 101 ?_
     simp only [lz]
     refine tk 22 102 ?_
     simp only [lz]
     refine tk 23 103 ?_
     simp only [lz]
     refine wpAnyH_ready (rs := [24]) (by kernel_rfl) (by simp) ?_
     refine AllReadyH.cons rfl (fun K hK => ?_) AllReadyH.nil
     go_simp
     have HSV : Hid (OneR S Sb W w n m E s X B q st ve vw vn R V r D (w9.setCell ⟨V, 5, none⟩ (.int .i64 li))) := Lib.hid (HON.out.setV (by rw [HDX0.out, HDX.out]) (by rw [HDX0.out, HDX.out]) HLT.out HVN.out.2.2 HVW.out.1 HVW.out.2 5 (.int .i64 li) (ev02 r p li) (HV9.out.setn 5 (by omega) li) (fun _ => by rw [HDX0.out]))
     have HSS9 : Hid ((fun w' : World => w'.cell? ⟨X, 2, none⟩ = some (Value.pointer (some ⟨B, 0, none⟩)) ∧ w'.cell? ⟨X, 3, none⟩ = some (.int .i64 s.ck) ∧ w'.cell? ⟨R, 1, none⟩ = some (.int .i64 r.t) ∧ w'.cell? ⟨R, 2, none⟩ = some (.int .i64 r.a) ∧ w'.cell? ⟨R, 3, none⟩ = some (.int .i64 r.n) ∧ w'.cell? ⟨R, 6, none⟩ = some (.string r.h) ∧ w'.cell? ⟨R, 5, none⟩ = some (.int .i64 r.d)) (w9.setCell ⟨V, 5, none⟩ (.int .i64 li))) := Lib.hid (by
      obtain ⟨S9, hx9, -, -, hr9, -⟩ := HSV.out
      obtain ⟨-, -, c2, c3, -, -, -⟩ := hx9.cells
      obtain ⟨r0, r1, r2, r3, r4, r5, r6, r7⟩ := hr9.all
      exact ⟨c2, c3, r1, r2, r3, r6, r5⟩)
     go_wp2_with fail
     refine hK.out _ _ ?_ (fun hHeld => ?_)
     · exact HSS9.out
     clear hK K
     try simp only [Act.put, lg]
     try simp only [lz]
     refine tk 25 8 ?_
     simp only [lz]
     refine wpAnyH_done (by kernel_rfl) ?_ _
     clear hHeld y5 z5 c2 c3 r0 r1 r2 r3 r4 r5 r6 r7
     go_wp2_with fail
     go_meet
     case rel => exact ⟨by rw [HDX0.out], HSV.out⟩
  · have HDX := Lib.hid (HD.out.trans (does_3 HOP.out hk))
    have HEQ : Hid ((evR r p).setN 0 1 = ev00 r) := Lib.hid (evR_3 HOP.out.1 (by omega))
    have hb1 : (r.k == 1) = false := by simp [hk]
    have hb2 : (r.k == 2) = false := by simp [hk]
    have hb3 : (r.k == 3) = true := by simp [hk]
    clear hk
    have y1 := blk_frozen HV4.out 1
    have z1 := blk_cell HV4.out 1
    simp only [EV.cells, lq] at z1
    obtain ⟨w5, hw5⟩ : ∃ w5, w5 = w4.setCell ⟨V, 1, none⟩ (.int .i64 0) := ⟨_, rfl⟩
    have hk5 : Keeps (fun i => i = V) w4 w5 := by rw [hw5]; exact (Keeps.refl (fun i => i = V) w4).setCell (p := ⟨V, 1, none⟩) (Or.inl rfl) _
    have HX5 := Lib.hid (HX4.out.keep hk5 (fun i hi hh => by rw [hi] at hh; have := HLT.out V hh; have := HVN.out.2.2; omega) (fun i hi => by rw [hi]; exact HVW.out.2))
    have HR5 := Lib.hid (HR4.out.keep hk5 (fun e => HVN.out.1 e.symm))
    have HZ5 := Lib.hid (HZ4.out.keep hk5 (fun e => HVN.out.2.1 e.symm))
    have HV5 : Hid (EvB w5 V ((evR r p).setN 0 1)) := Lib.hid (by rw [hw5]; exact HV4.out.setn 1 (by omega) 0)
    have HK5 : Hid (Keeps S w w5) := Lib.hid (HK4.out.trans hk5 (fun i hi => Or.inr (by rw [hi]; exact HVW.out.1)))
    have HW5 := Lib.hid hw5
    clear hw5 hk5
    go_upto_region 18 with fail
    rw [← HW5.out]
    clear HW5 y1 z1 c2 c3 k0 r0 r1 r2 r3 r4 r5 r6 r7
    obtain ⟨-, -, c2, c3, -, -, -⟩ := HX5.out.cells
    have k0 := HX5.out.xb.cells
    obtain ⟨r0, r1, r2, r3, r4, r5, r6, r7⟩ := HR5.out.all
    have hd0 := below_drew w5
    have HXd := Lib.hid (HX5.out.below hd0)
    have HRd : Hid (RqB w5.drew R r) := Lib.hid HR5.out
    have HZd : Hid (RpB w5.drew (R + 1) 0 0) := Lib.hid HZ5.out
    have HVd : Hid (EvB w5.drew V ((evR r p).setN 0 1)) := Lib.hid HV5.out
    have HKd : Hid (Keeps S w w5.drew) := Lib.hid HK5.out.drew
    clear hd0
    refine wp_region_held_drew (S := fun w' => w'.cell? ⟨X, 2, none⟩ = some (.pointer (some ⟨B, 0, none⟩)) ∧ w'.cell? ⟨X, 3, none⟩ = some (.int .i64 s.ck) ∧ w'.cell? ⟨R, 4, none⟩ = some (.int .i64 r.i) ∧ w'.cell? ⟨R, 7, none⟩ = some (.string r.s)) (by kernel_rfl) ?_ (fun hHeld => ?_)
    · exact ⟨c2, c3, r4, r7⟩
    refine tk 0 107 ?_
    simp only [lz]
    refine tk 1 108 ?_
    simp only [lz]
    refine tk 2 109 ?_
    simp only [lz]
    refine tk 3 110 ?_
    simp only [lz]
    refine tk 4 111 ?_
    simp only [lz]
    refine tk 5 112 ?_
    simp only [lz]
    refine tk 6 113 ?_
    simp only [lz]
    refine tk 7 114 ?_
    simp only [lz]
    refine tk 8 115 ?_
    simp only [lz]
    refine tk 9 116 ?_
    simp only [lz]
    refine tk 10 117 ?_
    simp only [lz]
    refine tk 11 118 ?_
    simp only [lz]
    refine tk 12 119 ?_
    simp only [lz]
    refine wpAnyH_ready (rs := [13]) (by kernel_rfl) (by simp) ?_
    refine AllReadyH.cons rfl (fun K hK => ?_) AllReadyH.nil
    go_simp
    refine (XB.claim HXd.out.xb HI.out.bi p r.i r.s s.ck).mono ?_
    rintro e w9 ⟨rfl, hp⟩
    have HON : Hid (OneR S Sb W w n m E s X B q st ve vw vn R V r D w9) := Lib.hid (oneR_book HXd.out HKd.out HRd.out HZd.out HVd.out (fun _ => by rw [HDX.out]; exact HEQ.out) HLT.out HVN.out.2.2 HSB.out (by rw [HDX.out]; exact hp))
    clear hp c2 c3 k0 r0 r1 r2 r3 r4 r5 r6 r7
    obtain ⟨S9, hx9, -, -, hr9, -, v9, hv9, -⟩ := HON.out
    obtain ⟨-, -, c2, c3, -, -, -⟩ := hx9.cells
    have k0 := hx9.xb.cells
    obtain ⟨r0, r1, r2, r3, r4, r5, r6, r7⟩ := hr9.all
    have y5 := blk_frozen hv9 5
    have z5 := blk_cell hv9 5
    simp only [EV.cells, lq] at z5
    clear hx9 hr9
    dsimp only
    go_wp2_with fail
    refine hK.out _ _ ?_ (fun hHeld => ?_)
    · exact ⟨c2, c3, r4, r7⟩
    clear hK K
    try simp only [Act.put, lg]
    try simp only [lz]
    refine tk 14 8 ?_
    simp only [lz]
    refine wpAnyH_done (by kernel_rfl) ?_ _
    clear hHeld y5 z5 hv9 c2 c3 k0 r0 r1 r2 r3 r4 r5 r6 r7
    go_wp2_with fail
    go_meet
    case rel => exact ⟨by rw [HDX.out], HON.out⟩
  · have HDX := Lib.hid (HD.out.trans (does_4 HOP.out hk))
    have HEQ : Hid ((evR r p).setN 0 1 = ev00 r) := Lib.hid (evR_3 HOP.out.1 (by omega))
    have hb1 : (r.k == 1) = false := by simp [hk]
    have hb2 : (r.k == 2) = false := by simp [hk]
    have hb3 : (r.k == 3) = false := by simp [hk]
    have hb4 : (r.k == 4) = true := by simp [hk]
    clear hk
    have y1 := blk_frozen HV4.out 1
    have z1 := blk_cell HV4.out 1
    simp only [EV.cells, lq] at z1
    obtain ⟨w5, hw5⟩ : ∃ w5, w5 = w4.setCell ⟨V, 1, none⟩ (.int .i64 0) := ⟨_, rfl⟩
    have hk5 : Keeps (fun i => i = V) w4 w5 := by rw [hw5]; exact (Keeps.refl (fun i => i = V) w4).setCell (p := ⟨V, 1, none⟩) (Or.inl rfl) _
    have HX5 := Lib.hid (HX4.out.keep hk5 (fun i hi hh => by rw [hi] at hh; have := HLT.out V hh; have := HVN.out.2.2; omega) (fun i hi => by rw [hi]; exact HVW.out.2))
    have HR5 := Lib.hid (HR4.out.keep hk5 (fun e => HVN.out.1 e.symm))
    have HZ5 := Lib.hid (HZ4.out.keep hk5 (fun e => HVN.out.2.1 e.symm))
    have HV5 : Hid (EvB w5 V ((evR r p).setN 0 1)) := Lib.hid (by rw [hw5]; exact HV4.out.setn 1 (by omega) 0)
    have HK5 : Hid (Keeps S w w5) := Lib.hid (HK4.out.trans hk5 (fun i hi => Or.inr (by rw [hi]; exact HVW.out.1)))
    have HW5 := Lib.hid hw5
    clear hw5 hk5
    go_upto_region 21 with fail
    rw [← HW5.out]
    clear HW5 y1 z1 c2 c3 k0 r0 r1 r2 r3 r4 r5 r6 r7
    obtain ⟨-, -, c2, c3, -, -, -⟩ := HX5.out.cells
    have k0 := HX5.out.xb.cells
    obtain ⟨r0, r1, r2, r3, r4, r5, r6, r7⟩ := HR5.out.all
    have hd0 := below_drew w5
    have HXd := Lib.hid (HX5.out.below hd0)
    have HRd : Hid (RqB w5.drew R r) := Lib.hid HR5.out
    have HZd : Hid (RpB w5.drew (R + 1) 0 0) := Lib.hid HZ5.out
    have HVd : Hid (EvB w5.drew V ((evR r p).setN 0 1)) := Lib.hid HV5.out
    have HKd : Hid (Keeps S w w5.drew) := Lib.hid HK5.out.drew
    clear hd0
    refine wp_region_held_drew (S := fun w' => w'.cell? ⟨X, 2, none⟩ = some (.pointer (some ⟨B, 0, none⟩)) ∧ w'.cell? ⟨X, 3, none⟩ = some (.int .i64 s.ck) ∧ w'.cell? ⟨R, 4, none⟩ = some (.int .i64 r.i)) (by kernel_rfl) ?_ (fun hHeld => ?_)
    · exact ⟨c2, c3, r4⟩
    refine tk 0 124 ?_
    simp only [lz]
    refine tk 1 125 ?_
    simp only [lz]
    refine tk 2 126 ?_
    simp only [lz]
    refine tk 3 127 ?_
    simp only [lz]
    refine tk 4 128 ?_
    simp only [lz]
    refine tk 5 129 ?_
    simp only [lz]
    refine tk 6 130 ?_
    simp only [lz]
    refine tk 7 131 ?_
    simp only [lz]
    refine tk 8 132 ?_
    simp only [lz]
    refine tk 9 133 ?_
    simp only [lz]
    refine tk 10 134 ?_
    simp only [lz]
    refine wpAnyH_ready (rs := [11]) (by kernel_rfl) (by simp) ?_
    refine AllReadyH.cons rfl (fun K hK => ?_) AllReadyH.nil
    go_simp
    refine (XB.refund HXd.out.xb HI.out.bi HNS.out p r.i s.ck).mono ?_
    rintro e w9 ⟨rfl, hp⟩
    have HON : Hid (OneR S Sb W w n m E s X B q st ve vw vn R V r D w9) := Lib.hid (oneR_book HXd.out HKd.out HRd.out HZd.out HVd.out (fun _ => by rw [HDX.out]; exact HEQ.out) HLT.out HVN.out.2.2 HSB.out (by rw [HDX.out]; exact hp))
    clear hp c2 c3 k0 r0 r1 r2 r3 r4 r5 r6 r7
    obtain ⟨S9, hx9, -, -, hr9, -, v9, hv9, -⟩ := HON.out
    obtain ⟨-, -, c2, c3, -, -, -⟩ := hx9.cells
    have k0 := hx9.xb.cells
    obtain ⟨r0, r1, r2, r3, r4, r5, r6, r7⟩ := hr9.all
    have y5 := blk_frozen hv9 5
    have z5 := blk_cell hv9 5
    simp only [EV.cells, lq] at z5
    clear hx9 hr9
    dsimp only
    go_wp2_with fail
    refine hK.out _ _ ?_ (fun hHeld => ?_)
    · exact ⟨c2, c3, r4⟩
    clear hK K
    try simp only [Act.put, lg]
    try simp only [lz]
    refine tk 12 8 ?_
    simp only [lz]
    refine wpAnyH_done (by kernel_rfl) ?_ _
    clear hHeld y5 z5 hv9 c2 c3 k0 r0 r1 r2 r3 r4 r5 r6 r7
    go_wp2_with fail
    go_meet
    case rel => exact ⟨by rw [HDX.out], HON.out⟩
 case rest =>
  obtain ⟨rfl, Sb2, hx, hsb, hk, hr, hz, v, hv, hve⟩ := hcut
  clear c2 c3 k0 r0 r1 r2 r3 r4 r5 r6 r7 hkinds
  rename World => w6
  have HLX : Hid (∀ i, xfp Sb2 X ve vw vn i → i ≠ R ∧ i ≠ R + 1 ∧ i ≠ V) := Lib.hid (fun i hi => by
   have h2 := HVN.out.2.2
   rcases hi with e | e
   · rcases hsb i e with e | e
     · have := HLT.out i (Or.inl e); omega
     · omega
   · have := HLT.out i (Or.inr e); omega)
  have HSW : Hid (∀ i, Sb2 i → S i ∨ w.heap.size ≤ i) := Lib.hid (fun i hi => by
   rcases hsb i hi with e | e
   · exact Or.inl (HSB.out i e)
   · exact Or.inr (by have := HVW.out.1; omega))
  have HSR : Hid (∀ i, (i = X ∨ ve.ownBlock = some i ∨ vw.ownBlock = some i ∨ vn.ownBlock = some i) → S i) := Lib.hid (fun i hi => (HSS.out i).2 (Or.inr hi))
  have HR6 := Lib.hid hr
  have HZ6 := Lib.hid hz
  have HK6 := Lib.hid hk
  have HNS2 : Hid (NoSec D.l) := Lib.hid (by rw [HD.out]; exact HNS.out.does)
  have HI2 : Hid (LInv n m E s2 T) := Lib.hid (by rw [HS2.out]; exact HI.out.step p r)
  by_cases hc : D.c = 0
  case neg =>
   have hno : D.b = s.b ∧ D.l = s.l := by rw [HD.out] at hc ⊢; exact doesF_no hc
   have HDI : Hid (D.i = 0) := Lib.hid (by rw [HD.out]; exact doesF_id (fun h => hc (by rw [HD.out]; exact h.2)))
   have HSN : Hid (s2 = s) := Lib.hid (by
    rw [HS2.out]
    unfold stepF
    rw [← HD.out, if_neg hc, hno.1, hno.2])
   have hx2 : XDat Sb2 W w6 n m E s X B q st ve vw vn := by
    have h := hx
    rw [hno.1, hno.2] at h
    exact h
   have y0 := blk_frozen hz 0
   have y1 := blk_frozen hz 1
   have z0 := blk_cell hz 0
   have z1 := blk_cell hz 1
   simp only [lq] at z0 z1
   obtain ⟨dc, hdc⟩ : ∃ dc, dc = D.c := ⟨_, rfl⟩
   rw [← hdc] at hc ⊢
   obtain ⟨wF, hwF⟩ : ∃ wF, wF = fillR w6 (R + 1) dc 0 := ⟨_, rfl⟩
   have HZF : Hid (RpB wF (R + 1) dc 0) := Lib.hid (by rw [hwF]; exact fillR_box hz dc 0)
   have HPF : Hid (XLPost S W w n m E s T X B q wF) := Lib.hid (by
    have hkf : Keeps (fun k => k = R + 1) w6 wF := by rw [hwF]; exact fillR_keeps w6 (R + 1) dc 0
    refine ⟨fun i => xfp Sb2 X ve vw vn i, ⟨Sb2, st, ve, vw, vn, hx2.keep hkf (fun i hi hh => (HLX.out i hh).2.1 hi) (fun i hi => by rw [hi]; have := HWS.out; have := HRR.out; omega), HI.out, HNS.out, fun i => Iff.rfl⟩, HK6.out.trans hkf (fun i hi => Or.inr (by rw [hi, HRR.out]; omega)), fun i hi => ?_⟩
    rcases hi with e | e
    · exact HSW.out i e
    · exact Or.inl (HSR.out i e))
   have hb : (dc != 0) = true := by simp [hc]
   have HDC := Lib.hid hdc
   unfold fillR at hwF
   clear hx hsb hk hr hz hv hve hno hx2 hc hdc
   go_wp2_with fail
   rw [← hwF]
   clear hwF y0 y1 z0 z1
   have z0 := blk_cell HZF.out 0
   have z1 := blk_cell HZF.out 1
   simp only [lq] at z0 z1
   refine bodyPost_ret (v := .agg #[.int .i64 dc, .int .i64 0]) (by simp [results, Tryz.results55, go_sem, z0, z1]) rfl ?_
   rw [HSN.out, HDI.out, ← HDC.out]
   exact ⟨rfl, HPF.out⟩
  case pos =>
  obtain ⟨x, hxe⟩ : ∃ x, x = D.e := ⟨_, rfl⟩
  have HV6 : Hid (EvB w6 V x) := Lib.hid (by rw [hxe, ← hve hc]; exact hv)
  have HSE : Hid (s2 = ⟨D.b, D.l, s.ck, s.es ++ [⟨p, s.ck, x⟩]⟩) := Lib.hid (by
   rw [HS2.out]
   unfold stepF
   rw [← HD.out, if_pos hc, hxe])
  have HDI : Hid ((r.k = 2 → D.i = x.i) ∧ (r.k ≠ 2 → D.i = 0) ∧ D.c = 0) := Lib.hid ⟨fun h => by rw [hxe, HD.out]; exact (does_ei h (by rw [← HD.out]; exact hc)).symm, fun h => by rw [HD.out]; exact doesF_id (fun hh => h hh.1), hc⟩
  have hb : (D.c != 0) = false := by simp [hc]
  obtain ⟨ln, hln⟩ : ∃ ln, ln = s.es.length := ⟨_, rfl⟩
  have HLN : Hid (s.es.length = ln ∧ ln ≤ 400) := Lib.hid ⟨hln.symm, by rw [hln]; exact HI.out.len.2.1⟩
  obtain ⟨eo, ec, rfl, -, -⟩ := own_shape hx.re
  obtain ⟨wo, wc, rfl, -, -⟩ := own_shape hx.rw_
  obtain ⟨no, nc, rfl, -, -⟩ := own_shape hx.rn
  obtain ⟨-, -, -, c3, c4, c5, c6⟩ := hx.cells
  dsimp only at c3 c4 c5 c6
  rw [← hln] at c4 c5 c6
  have HP6 : Hid (P3 Sb2 S W w n m D.b D.l X B q w6.drew [(R, .cells r.cells 52), (R + 1, .cells #[.int .i64 0, .int .i64 0] 50), (V, .cells x.cells 55)] #[st, .int .i64 E, .pointer (some ⟨B, 0, none⟩), .int .i64 s.ck, .slice eo ln ec, .slice wo ln wc, .slice no ln nc] (.slice eo ln ec) ln (s.evs.flatMap EV.list) (.slice wo ln wc) ln (whoL s) (.slice no ln nc) ln (whenL s)) := Lib.hid (by
   have h : P3 Sb2 S W w n m D.b D.l X B q w6 [(R, .cells r.cells 52), (R + 1, .cells #[.int .i64 0, .int .i64 0] 50), (V, .cells x.cells 55)] #[st, .int .i64 E, .pointer (some ⟨B, 0, none⟩), .int .i64 s.ck, .slice eo ln ec, .slice wo ln wc, .slice no ln nc] (.slice eo ln ec) ln (s.evs.flatMap EV.list) (.slice wo ln wc) ln (whoL s) (.slice no ln nc) ln (whenL s) := by
    subst hln
    refine ⟨hx.xb, hx.box, hx.re, hx.rw_, hx.rn, hx.nX, fun g hg => ⟨hx.ne g hg, Or.inl (HSR.out g (Or.inr (Or.inl hg)))⟩, fun g hg => ⟨hx.nw g hg, Or.inl (HSR.out g (Or.inr (Or.inr (Or.inl hg))))⟩, fun g hg => ⟨hx.nn g hg, Or.inl (HSR.out g (Or.inr (Or.inr (Or.inr hg))))⟩, hx.wn, fun y hy => ?_, HK6.out, HSR.out X (Or.inl rfl), fun i hi => ?_, HWS.out⟩
    · have hap : ∀ g, (g = R ∨ g = R + 1 ∨ g = V) → ¬ xfp Sb2 X (.slice eo s.es.length ec) (.slice wo s.es.length wc) (.slice no s.es.length nc) g := fun g hg hh => by
       have := HLX.out g hh
       rcases hg with e | e | e
       · exact this.1 e
       · exact this.2.1 e
       · exact this.2.2 e
      have hfin : ∀ g, (g = R ∨ g = R + 1 ∨ g = V) → ¬ Sb2 g ∧ g ≠ X ∧ (Value.slice eo s.es.length ec).ownBlock ≠ some g ∧ (Value.slice wo s.es.length wc).ownBlock ≠ some g ∧ (Value.slice no s.es.length nc).ownBlock ≠ some g := fun g hg => ⟨fun h => hap g hg (Or.inl h), fun h => hap g hg (Or.inr (Or.inl h)), fun h => hap g hg (Or.inr (Or.inr (Or.inl h))), fun h => hap g hg (Or.inr (Or.inr (Or.inr (Or.inl h)))), fun h => hap g hg (Or.inr (Or.inr (Or.inr (Or.inr h))))⟩
      simp only [List.mem_cons, List.not_mem_nil, or_false] at hy
      rcases hy with rfl | rfl | rfl
      · exact ⟨HR6.out, hfin R (Or.inl rfl)⟩
      · exact ⟨HZ6.out, hfin (R + 1) (Or.inr (Or.inl rfl))⟩
      · exact ⟨HV6.out, hfin V (Or.inr (Or.inr rfl))⟩
    · exact HSWW.out i hi
   exact h.below (below_drew w6))
  obtain ⟨wq, hwq⟩ : ∃ wq, wq = w6.drew := ⟨_, rfl⟩
  have HWQ := Lib.hid hwq.symm
  rw [← hwq] at HP6
  have HP := HP6
  obtain ⟨i9, hi90, hi91, hi92, hi93⟩ := info_parts Try_infoE9
  obtain ⟨i1, hi10, hi11, hi12, hi13⟩ := info_parts Try_infoInt
  have hln4 := HLN.out.2
  clear HP6 hx hsb hk hr hz hv hve hc hxe hln hwq
  go_upto_region 24 with fail
  go_cut [] (fun wx => ∃ ve' vw' vn', XDat Sb2 W wx n m E s2 X B q st ve' vw' vn' ∧ ((∀ i, xfp Sb2 X ve' vw' vn' i → (S i ∨ w.heap.size ≤ i) ∧ i ≠ R + 1) ∧ RqB wx R r ∧ RpB wx (R + 1) 0 0 ∧ EvB wx V x ∧ Keeps S w wx))
  case first =>
   refine walkD_start2 (S1 := fun w' => w'.cell? ⟨X, 3, none⟩ = some (.int .i64 s.ck) ∧ w'.cell? ⟨X, 4, none⟩ = some (.slice eo ln ec) ∧ w'.cell? ⟨X, 5, none⟩ = some (.slice wo ln wc) ∧ w'.cell? ⟨X, 6, none⟩ = some (.slice no ln nc) ∧ w'.cell? ⟨V, 0, none⟩ = some (.int .i64 x.k) ∧ w'.cell? ⟨V, 1, none⟩ = some (.int .i64 x.f) ∧ w'.cell? ⟨V, 2, none⟩ = some (.int .i64 x.t) ∧ w'.cell? ⟨V, 3, none⟩ = some (.int .i64 x.a) ∧ w'.cell? ⟨V, 4, none⟩ = some (.int .i64 x.n) ∧ w'.cell? ⟨V, 5, none⟩ = some (.int .i64 x.i) ∧ w'.cell? ⟨V, 6, none⟩ = some (.int .i64 x.d) ∧ w'.cell? ⟨V, 7, none⟩ = some (.string x.h) ∧ w'.cell? ⟨V, 8, none⟩ = some (.string x.s)) (tl := [0, 1, 2, 27, 28, 29, 30, 31, 32, 33, 34, 35]) 36 (by kernel_rfl) (by kernel_rfl) ?_ (fun hHeld => ?_)
   · exact ⟨c3, c4, c5, c6, HV6.out.all⟩
   refine tz 0 140 ?_
   simp only [lz]
   refine tz 1 141 ?_
   simp only [lz]
   refine tz 2 142 ?_
   simp only [lz]
   refine td 3 26 [16, 9, 6, 5, 4] 143 ?_
   simp only [lz]
   refine td 4 26 [16, 9, 6, 5] 144 ?_
   simp only [lz]
   refine td 5 26 [16, 9, 6] 145 ?_
   simp only [lz]
   refine td 6 26 [16, 9] 146 ?_
   simp only [lz]
   refine td 7 26 [16, 9, 8] 147 ?_
   simp only [lz]
   refine td 10 26 [16, 13, 12, 11] 150 ?_
   simp only [lz]
   refine td 11 26 [16, 13, 12] 151 ?_
   simp only [lz]
   refine td 12 26 [16, 13] 152 ?_
   simp only [lz]
   refine td 13 26 [16] 153 ?_
   simp only [lz]
   refine td 14 26 [16, 15] 154 ?_
   simp only [lz]
   refine td 17 26 [20, 19, 18] 157 ?_
   simp only [lz]
   refine td 18 26 [20, 19] 158 ?_
   simp only [lz]
   refine td 19 26 [20] 159 ?_
   simp only [lz]
   refine td 20 26 [] 160 ?_
   simp only [lz]
   refine td 21 26 [25, 24, 23, 22] 161 ?_
   simp only [lz]
   refine td 22 26 [25, 24, 23] 162 ?_
   simp only [lz]
   refine td 23 26 [25, 24] 163 ?_
   simp only [lz]
   refine td 24 26 [25] 164 ?_
   simp only [lz]
   refine walkD_hub 9 #[true, true, true, true, true, true, true, true, true, true, true, true, true, true, true, true, true, true, true, true, true, true, true, true, true, true, true, false, false, false, false, false, false, false, false, false] (fun t0 t w' => ∃ (P8 P15 P25 : Nat) (ao9 : Option Addr) (cap9 : Nat) (ao16 : Option Addr) (cap16 : Nat) (ao26 : Option Addr) (cap26 : Nat), t = (((((t0.setIfInBounds 148 (.slice (some ⟨P8, 0, none⟩) 1 1)).setIfInBounds 149 (.slice ao9 (ln + 1) cap9)).setIfInBounds 155 (.slice (some ⟨P15, 0, none⟩) 1 1)).setIfInBounds 156 (.slice ao16 (ln + 1) cap16)).setIfInBounds 165 (.slice (some ⟨P25, 0, none⟩) 1 1)).setIfInBounds 166 (.slice ao26 (ln + 1) cap26) ∧ P3 Sb2 S W w n m D.b D.l X B q w' [(R, .cells r.cells 52), (R + 1, .cells #[.int .i64 0, .int .i64 0] 50), (V, .cells x.cells 55)] #[st, .int .i64 E, .pointer (some ⟨B, 0, none⟩), .int .i64 s.ck, .slice eo ln ec, .slice wo ln wc, .slice no ln nc] (.slice ao9 (ln + 1) cap9) (ln + 1) (s.evs.flatMap EV.list ++ x.list) (.slice ao16 (ln + 1) cap16) (ln + 1) (whoL s ++ [.int .i64 p]) (.slice ao26 (ln + 1) cap26) (ln + 1) (whenL s ++ [.int .i64 s.ck])) (fun t wn hM => ?_) (fun HUB => ?_)
   · skip
     obtain ⟨P8, P15, P25, ao9, cap9, ao16, cap16, ao26, cap26, rfl, hP⟩ := hM
     clear HP
     have HP := Lib.hid hP
     clear hP
     rename World => wq
     simp only [lz]
     refine tz 27 167 ?_
     simp only [lz]
     refine tz 28 168 ?_
     simp only [lz]
     clear hHeld
     have c4 := blk_cell HP.out.box 4
     have f4 := blk_frozen HP.out.box 4
     simp only [lz, lq] at c4
     refine walkD_ready (rs := [29]) (by kernel_rfl) (by simp) ?_
     refine AllD.opT (by kernel_rfl) rfl rfl (fun K hK => ?_) AllD.nil
     go_simp
     go_wp2_with fail
     refine hK.out _ _ ?_
     clear hK K
     try simp only [Act.put, lg]
     try simp only [lz]
     refine tz 30 169 ?_
     simp only [lz]
     refine tz 31 170 ?_
     simp only [lz]
     have HPn := Lib.hid (HP.out.setX 4 (.slice ao9 (ln + 1) cap9))
     generalize wq.setCell ⟨X, 4, none⟩ (.slice ao9 (ln + 1) cap9) = wn at HPn ⊢
     clear HP
     rename World => wq
     have HP := HPn
     clear HPn
     have c5 := blk_cell HP.out.box 5
     have f5 := blk_frozen HP.out.box 5
     simp only [lz, lq] at c5
     refine walkD_ready (rs := [32]) (by kernel_rfl) (by simp) ?_
     refine AllD.opT (by kernel_rfl) rfl rfl (fun K hK => ?_) AllD.nil
     go_simp
     go_wp2_with fail
     refine hK.out _ _ ?_
     clear hK K
     try simp only [Act.put, lg]
     try simp only [lz]
     refine tz 33 171 ?_
     simp only [lz]
     refine tz 34 172 ?_
     simp only [lz]
     have HPn := Lib.hid (HP.out.setX 5 (.slice ao16 (ln + 1) cap16))
     generalize wq.setCell ⟨X, 5, none⟩ (.slice ao16 (ln + 1) cap16) = wn at HPn ⊢
     clear HP
     rename World => wq
     have HP := HPn
     clear HPn
     have c6 := blk_cell HP.out.box 6
     have f6 := blk_frozen HP.out.box 6
     simp only [lz, lq] at c6
     refine walkD_ready (rs := [35]) (by kernel_rfl) (by simp) ?_
     refine AllD.opT (by kernel_rfl) rfl rfl (fun K hK => ?_) AllD.nil
     go_simp
     go_wp2_with fail
     refine hK.out _ _ ?_
     clear hK K
     try simp only [Act.put, lg]
     try simp only [lz]
     refine walkD_done (by kernel_rfl) ?_ _
     have HF := Lib.hid ((HP.out.setX 6 (.slice ao26 (ln + 1) cap26)).leaf (R := R) (V := V) (r := r) (E := E) (st := st) (by simp only [lz]) HLN.out.1 HSW.out (by simp) (by simp) (by simp))
     generalize wq.setCell ⟨X, 6, none⟩ (.slice ao26 (ln + 1) cap26) = wn at HF ⊢
     clear HP c4 f4 c5 f5 c6 f6
     go_wp2_with fail
     go_meet
     case rel => exact ⟨_, _, _, by rw [HSE.out]; exact HF.out.1, HF.out.2⟩
   refine walkD_ready (rs := [8, 15, 25]) (by kernel_rfl) (by simp) ?_
   refine AllD.op rfl rfl (fun K hK => ?_) (AllD.op rfl rfl (fun K hK => ?_) (AllD.op rfl rfl (fun K hK => ?_) (AllD.nil)))
   · skip
     try rw [HWQ.out]
     go_simp
     have HPn := Lib.hid (HP.out.alloc #[.int .i64 x.k, .int .i64 x.f, .int .i64 x.t, .int .i64 x.a, .int .i64 x.n, .int .i64 x.i, .int .i64 x.d, .string x.h, .string x.s] 55)
     obtain ⟨P8, hP8⟩ : ∃ z, z = wq.heap.size := ⟨_, rfl⟩
     rw [← hP8] at HPn ⊢
     generalize wq.alloc (.cells #[.int .i64 x.k, .int .i64 x.f, .int .i64 x.t, .int .i64 x.a, .int .i64 x.n, .int .i64 x.i, .int .i64 x.d, .string x.h, .string x.s] 55) = wn at HPn ⊢
     clear HP hP8
     rename World => wq
     have HP := HPn
     clear HPn
     go_wp2_with fail
     refine hK.out _ _ ?_ (fun hHeld => ?_)
     · exact HP.out.held (by simp)
     clear hK K
     try simp only [Act.put, lg]
     try simp only [lz]
     refine walkD_ready (rs := [9, 15, 25]) (by kernel_rfl) (by simp) ?_
     refine AllD.cons rfl (fun K hK => ?_) (AllD.op rfl rfl (fun K hK => ?_) (AllD.op rfl rfl (fun K hK => ?_) (AllD.nil)))
     · skip
       try rw [HWQ.out]
       refine P3.stE HP.out P8 x (by simp [EV.cells]) (by rfl) _ _ (by rfl) (by rfl) (by rfl) hln4 (fun ao9 cap9 wn hP => ?_)
       have HPn := Lib.hid hP
       clear HP hP
       rename World => wq
       have HP := HPn
       clear HPn
       go_wp2_with fail
       refine hK.out _ _ ?_ (fun hHeld => ?_)
       · exact HP.out.held (by simp)
       clear hK K
       try simp only [Act.put, lg]
       try simp only [lz]
       refine walkD_ready (rs := [15, 25]) (by kernel_rfl) (by simp) ?_
       refine AllD.op rfl rfl (fun K hK => ?_) (AllD.op rfl rfl (fun K hK => ?_) (AllD.nil))
       · skip
         try rw [HWQ.out]
         go_simp
         have HPn := Lib.hid (HP.out.alloc #[.int .i64 p] 3)
         obtain ⟨P15, hP15⟩ : ∃ z, z = wq.heap.size := ⟨_, rfl⟩
         rw [← hP15] at HPn ⊢
         generalize wq.alloc (.cells #[.int .i64 p] 3) = wn at HPn ⊢
         clear HP hP15
         rename World => wq
         have HP := HPn
         clear HPn
         go_wp2_with fail
         refine hK.out _ _ ?_ (fun hHeld => ?_)
         · exact HP.out.held (by simp)
         clear hK K
         try simp only [Act.put, lg]
         try simp only [lz]
         refine walkD_ready (rs := [16, 25]) (by kernel_rfl) (by simp) ?_
         refine AllD.cons rfl (fun K hK => ?_) (AllD.op rfl rfl (fun K hK => ?_) (AllD.nil))
         · skip
           try rw [HWQ.out]
           refine P3.stW HP.out P15 p (by simp [EV.cells]) (by rfl) _ _ (by rfl) (by rfl) (by rfl) hln4 (fun ao16 cap16 wn hP => ?_)
           have HPn := Lib.hid hP
           clear HP hP
           rename World => wq
           have HP := HPn
           clear HPn
           go_wp2_with fail
           refine hK.out _ _ ?_ (fun hHeld => ?_)
           · exact HP.out.held (by simp)
           clear hK K
           try simp only [Act.put, lg]
           try simp only [lz]
           try rw [HWQ.out]
           refine walkD_ready (rs := [25]) (by kernel_rfl) (by simp) ?_
           refine AllD.op rfl rfl (fun K hK => ?_) AllD.nil
           go_simp
           have HPn := Lib.hid (HP.out.alloc #[.int .i64 s.ck] 3)
           obtain ⟨P25, hP25⟩ : ∃ z, z = wq.heap.size := ⟨_, rfl⟩
           rw [← hP25] at HPn ⊢
           generalize wq.alloc (.cells #[.int .i64 s.ck] 3) = wn at HPn ⊢
           clear HP hP25
           rename World => wq
           have HP := HPn
           clear HPn
           go_wp2_with fail
           refine hK.out _ _ ?_ (fun hHeld => ?_)
           · exact HP.out.held (by simp)
           clear hK K
           try simp only [Act.put, lg]
           try simp only [lz]
           try rw [HWQ.out]
           refine walkD_ready (rs := [26]) (by kernel_rfl) (by simp) ?_
           refine AllD.cons rfl (fun K hK => ?_) AllD.nil
           refine P3.stN HP.out P25 s.ck (by simp [EV.cells]) (by rfl) _ _ (by rfl) (by rfl) (by rfl) hln4 (fun ao26 cap26 wn hP => ?_)
           have HPn := Lib.hid hP
           clear HP hP
           rename World => wq
           have HP := HPn
           clear HPn
           go_wp2_with fail
           refine hK.out _ _ ?_ (fun hHeld => ?_)
           · exact HP.out.held (by simp)
           clear hK K
           try simp only [Act.put, lg]
           try simp only [lz]
           exact HUB _ _ _ (by kernel_rfl) ⟨P8, P15, P25, ao9, cap9, ao16, cap16, ao26, cap26, by simp only [lz], HP.out.sub (by simp)⟩
         · skip
           try rw [HWQ.out]
           go_simp
           have HPn := Lib.hid (HP.out.alloc #[.int .i64 s.ck] 3)
           obtain ⟨P25, hP25⟩ : ∃ z, z = wq.heap.size := ⟨_, rfl⟩
           rw [← hP25] at HPn ⊢
           generalize wq.alloc (.cells #[.int .i64 s.ck] 3) = wn at HPn ⊢
           clear HP hP25
           rename World => wq
           have HP := HPn
           clear HPn
           go_wp2_with fail
           refine hK.out _ _ ?_ (fun hHeld => ?_)
           · exact HP.out.held (by simp)
           clear hK K
           try simp only [Act.put, lg]
           try simp only [lz]
           try rw [HWQ.out]
           refine walkD_ready (rs := [16]) (by kernel_rfl) (by simp) ?_
           refine AllD.cons rfl (fun K hK => ?_) AllD.nil
           refine P3.stW HP.out P15 p (by simp [EV.cells]) (by rfl) _ _ (by rfl) (by rfl) (by rfl) hln4 (fun ao16 cap16 wn hP => ?_)
           have HPn := Lib.hid hP
           clear HP hP
           rename World => wq
           have HP := HPn
           clear HPn
           go_wp2_with fail
           refine hK.out _ _ ?_ (fun hHeld => ?_)
           · exact HP.out.held (by simp)
           clear hK K
           try simp only [Act.put, lg]
           try simp only [lz]
           try rw [HWQ.out]
           refine walkD_ready (rs := [26]) (by kernel_rfl) (by simp) ?_
           refine AllD.cons rfl (fun K hK => ?_) AllD.nil
           refine P3.stN HP.out P25 s.ck (by simp [EV.cells]) (by rfl) _ _ (by rfl) (by rfl) (by rfl) hln4 (fun ao26 cap26 wn hP => ?_)
           have HPn := Lib.hid hP
           clear HP hP
           rename World => wq
           have HP := HPn
           clear HPn
           go_wp2_with fail
           refine hK.out _ _ ?_ (fun hHeld => ?_)
           · exact HP.out.held (by simp)
           clear hK K
           try simp only [Act.put, lg]
           try simp only [lz]
           exact HUB _ _ _ (by kernel_rfl) ⟨P8, P15, P25, ao9, cap9, ao16, cap16, ao26, cap26, by simp only [lz], HP.out.sub (by simp)⟩
       · skip
         try rw [HWQ.out]
         go_simp
         have HPn := Lib.hid (HP.out.alloc #[.int .i64 s.ck] 3)
         obtain ⟨P25, hP25⟩ : ∃ z, z = wq.heap.size := ⟨_, rfl⟩
         rw [← hP25] at HPn ⊢
         generalize wq.alloc (.cells #[.int .i64 s.ck] 3) = wn at HPn ⊢
         clear HP hP25
         rename World => wq
         have HP := HPn
         clear HPn
         go_wp2_with fail
         refine hK.out _ _ ?_ (fun hHeld => ?_)
         · exact HP.out.held (by simp)
         clear hK K
         try simp only [Act.put, lg]
         try simp only [lz]
         try rw [HWQ.out]
         refine walkD_ready (rs := [15]) (by kernel_rfl) (by simp) ?_
         refine AllD.op rfl rfl (fun K hK => ?_) AllD.nil
         go_simp
         have HPn := Lib.hid (HP.out.alloc #[.int .i64 p] 3)
         obtain ⟨P15, hP15⟩ : ∃ z, z = wq.heap.size := ⟨_, rfl⟩
         rw [← hP15] at HPn ⊢
         generalize wq.alloc (.cells #[.int .i64 p] 3) = wn at HPn ⊢
         clear HP hP15
         rename World => wq
         have HP := HPn
         clear HPn
         go_wp2_with fail
         refine hK.out _ _ ?_ (fun hHeld => ?_)
         · exact HP.out.held (by simp)
         clear hK K
         try simp only [Act.put, lg]
         try simp only [lz]
         try rw [HWQ.out]
         refine walkD_ready (rs := [16]) (by kernel_rfl) (by simp) ?_
         refine AllD.cons rfl (fun K hK => ?_) AllD.nil
         refine P3.stW HP.out P15 p (by simp [EV.cells]) (by rfl) _ _ (by rfl) (by rfl) (by rfl) hln4 (fun ao16 cap16 wn hP => ?_)
         have HPn := Lib.hid hP
         clear HP hP
         rename World => wq
         have HP := HPn
         clear HPn
         go_wp2_with fail
         refine hK.out _ _ ?_ (fun hHeld => ?_)
         · exact HP.out.held (by simp)
         clear hK K
         try simp only [Act.put, lg]
         try simp only [lz]
         try rw [HWQ.out]
         refine walkD_ready (rs := [26]) (by kernel_rfl) (by simp) ?_
         refine AllD.cons rfl (fun K hK => ?_) AllD.nil
         refine P3.stN HP.out P25 s.ck (by simp [EV.cells]) (by rfl) _ _ (by rfl) (by rfl) (by rfl) hln4 (fun ao26 cap26 wn hP => ?_)
         have HPn := Lib.hid hP
         clear HP hP
         rename World => wq
         have HP := HPn
         clear HPn
         go_wp2_with fail
         refine hK.out _ _ ?_ (fun hHeld => ?_)
         · exact HP.out.held (by simp)
         clear hK K
         try simp only [Act.put, lg]
         try simp only [lz]
         exact HUB _ _ _ (by kernel_rfl) ⟨P8, P15, P25, ao9, cap9, ao16, cap16, ao26, cap26, by simp only [lz], HP.out.sub (by simp)⟩
     · skip
       try rw [HWQ.out]
       go_simp
       have HPn := Lib.hid (HP.out.alloc #[.int .i64 p] 3)
       obtain ⟨P15, hP15⟩ : ∃ z, z = wq.heap.size := ⟨_, rfl⟩
       rw [← hP15] at HPn ⊢
       generalize wq.alloc (.cells #[.int .i64 p] 3) = wn at HPn ⊢
       clear HP hP15
       rename World => wq
       have HP := HPn
       clear HPn
       go_wp2_with fail
       refine hK.out _ _ ?_ (fun hHeld => ?_)
       · exact HP.out.held (by simp)
       clear hK K
       try simp only [Act.put, lg]
       try simp only [lz]
       refine walkD_ready (rs := [9, 25]) (by kernel_rfl) (by simp) ?_
       refine AllD.cons rfl (fun K hK => ?_) (AllD.op rfl rfl (fun K hK => ?_) (AllD.nil))
       · skip
         try rw [HWQ.out]
         refine P3.stE HP.out P8 x (by simp [EV.cells]) (by rfl) _ _ (by rfl) (by rfl) (by rfl) hln4 (fun ao9 cap9 wn hP => ?_)
         have HPn := Lib.hid hP
         clear HP hP
         rename World => wq
         have HP := HPn
         clear HPn
         go_wp2_with fail
         refine hK.out _ _ ?_ (fun hHeld => ?_)
         · exact HP.out.held (by simp)
         clear hK K
         try simp only [Act.put, lg]
         try simp only [lz]
         refine walkD_ready (rs := [16, 25]) (by kernel_rfl) (by simp) ?_
         refine AllD.cons rfl (fun K hK => ?_) (AllD.op rfl rfl (fun K hK => ?_) (AllD.nil))
         · skip
           try rw [HWQ.out]
           refine P3.stW HP.out P15 p (by simp [EV.cells]) (by rfl) _ _ (by rfl) (by rfl) (by rfl) hln4 (fun ao16 cap16 wn hP => ?_)
           have HPn := Lib.hid hP
           clear HP hP
           rename World => wq
           have HP := HPn
           clear HPn
           go_wp2_with fail
           refine hK.out _ _ ?_ (fun hHeld => ?_)
           · exact HP.out.held (by simp)
           clear hK K
           try simp only [Act.put, lg]
           try simp only [lz]
           try rw [HWQ.out]
           refine walkD_ready (rs := [25]) (by kernel_rfl) (by simp) ?_
           refine AllD.op rfl rfl (fun K hK => ?_) AllD.nil
           go_simp
           have HPn := Lib.hid (HP.out.alloc #[.int .i64 s.ck] 3)
           obtain ⟨P25, hP25⟩ : ∃ z, z = wq.heap.size := ⟨_, rfl⟩
           rw [← hP25] at HPn ⊢
           generalize wq.alloc (.cells #[.int .i64 s.ck] 3) = wn at HPn ⊢
           clear HP hP25
           rename World => wq
           have HP := HPn
           clear HPn
           go_wp2_with fail
           refine hK.out _ _ ?_ (fun hHeld => ?_)
           · exact HP.out.held (by simp)
           clear hK K
           try simp only [Act.put, lg]
           try simp only [lz]
           try rw [HWQ.out]
           refine walkD_ready (rs := [26]) (by kernel_rfl) (by simp) ?_
           refine AllD.cons rfl (fun K hK => ?_) AllD.nil
           refine P3.stN HP.out P25 s.ck (by simp [EV.cells]) (by rfl) _ _ (by rfl) (by rfl) (by rfl) hln4 (fun ao26 cap26 wn hP => ?_)
           have HPn := Lib.hid hP
           clear HP hP
           rename World => wq
           have HP := HPn
           clear HPn
           go_wp2_with fail
           refine hK.out _ _ ?_ (fun hHeld => ?_)
           · exact HP.out.held (by simp)
           clear hK K
           try simp only [Act.put, lg]
           try simp only [lz]
           exact HUB _ _ _ (by kernel_rfl) ⟨P8, P15, P25, ao9, cap9, ao16, cap16, ao26, cap26, by simp only [lz], HP.out.sub (by simp)⟩
         · skip
           try rw [HWQ.out]
           go_simp
           have HPn := Lib.hid (HP.out.alloc #[.int .i64 s.ck] 3)
           obtain ⟨P25, hP25⟩ : ∃ z, z = wq.heap.size := ⟨_, rfl⟩
           rw [← hP25] at HPn ⊢
           generalize wq.alloc (.cells #[.int .i64 s.ck] 3) = wn at HPn ⊢
           clear HP hP25
           rename World => wq
           have HP := HPn
           clear HPn
           go_wp2_with fail
           refine hK.out _ _ ?_ (fun hHeld => ?_)
           · exact HP.out.held (by simp)
           clear hK K
           try simp only [Act.put, lg]
           try simp only [lz]
           try rw [HWQ.out]
           refine walkD_ready (rs := [16]) (by kernel_rfl) (by simp) ?_
           refine AllD.cons rfl (fun K hK => ?_) AllD.nil
           refine P3.stW HP.out P15 p (by simp [EV.cells]) (by rfl) _ _ (by rfl) (by rfl) (by rfl) hln4 (fun ao16 cap16 wn hP => ?_)
           have HPn := Lib.hid hP
           clear HP hP
           rename World => wq
           have HP := HPn
           clear HPn
           go_wp2_with fail
           refine hK.out _ _ ?_ (fun hHeld => ?_)
           · exact HP.out.held (by simp)
           clear hK K
           try simp only [Act.put, lg]
           try simp only [lz]
           try rw [HWQ.out]
           refine walkD_ready (rs := [26]) (by kernel_rfl) (by simp) ?_
           refine AllD.cons rfl (fun K hK => ?_) AllD.nil
           refine P3.stN HP.out P25 s.ck (by simp [EV.cells]) (by rfl) _ _ (by rfl) (by rfl) (by rfl) hln4 (fun ao26 cap26 wn hP => ?_)
           have HPn := Lib.hid hP
           clear HP hP
           rename World => wq
           have HP := HPn
           clear HPn
           go_wp2_with fail
           refine hK.out _ _ ?_ (fun hHeld => ?_)
           · exact HP.out.held (by simp)
           clear hK K
           try simp only [Act.put, lg]
           try simp only [lz]
           exact HUB _ _ _ (by kernel_rfl) ⟨P8, P15, P25, ao9, cap9, ao16, cap16, ao26, cap26, by simp only [lz], HP.out.sub (by simp)⟩
       · skip
         try rw [HWQ.out]
         go_simp
         have HPn := Lib.hid (HP.out.alloc #[.int .i64 s.ck] 3)
         obtain ⟨P25, hP25⟩ : ∃ z, z = wq.heap.size := ⟨_, rfl⟩
         rw [← hP25] at HPn ⊢
         generalize wq.alloc (.cells #[.int .i64 s.ck] 3) = wn at HPn ⊢
         clear HP hP25
         rename World => wq
         have HP := HPn
         clear HPn
         go_wp2_with fail
         refine hK.out _ _ ?_ (fun hHeld => ?_)
         · exact HP.out.held (by simp)
         clear hK K
         try simp only [Act.put, lg]
         try simp only [lz]
         try rw [HWQ.out]
         refine walkD_ready (rs := [9]) (by kernel_rfl) (by simp) ?_
         refine AllD.cons rfl (fun K hK => ?_) AllD.nil
         refine P3.stE HP.out P8 x (by simp [EV.cells]) (by rfl) _ _ (by rfl) (by rfl) (by rfl) hln4 (fun ao9 cap9 wn hP => ?_)
         have HPn := Lib.hid hP
         clear HP hP
         rename World => wq
         have HP := HPn
         clear HPn
         go_wp2_with fail
         refine hK.out _ _ ?_ (fun hHeld => ?_)
         · exact HP.out.held (by simp)
         clear hK K
         try simp only [Act.put, lg]
         try simp only [lz]
         try rw [HWQ.out]
         refine walkD_ready (rs := [16]) (by kernel_rfl) (by simp) ?_
         refine AllD.cons rfl (fun K hK => ?_) AllD.nil
         refine P3.stW HP.out P15 p (by simp [EV.cells]) (by rfl) _ _ (by rfl) (by rfl) (by rfl) hln4 (fun ao16 cap16 wn hP => ?_)
         have HPn := Lib.hid hP
         clear HP hP
         rename World => wq
         have HP := HPn
         clear HPn
         go_wp2_with fail
         refine hK.out _ _ ?_ (fun hHeld => ?_)
         · exact HP.out.held (by simp)
         clear hK K
         try simp only [Act.put, lg]
         try simp only [lz]
         try rw [HWQ.out]
         refine walkD_ready (rs := [26]) (by kernel_rfl) (by simp) ?_
         refine AllD.cons rfl (fun K hK => ?_) AllD.nil
         refine P3.stN HP.out P25 s.ck (by simp [EV.cells]) (by rfl) _ _ (by rfl) (by rfl) (by rfl) hln4 (fun ao26 cap26 wn hP => ?_)
         have HPn := Lib.hid hP
         clear HP hP
         rename World => wq
         have HP := HPn
         clear HPn
         go_wp2_with fail
         refine hK.out _ _ ?_ (fun hHeld => ?_)
         · exact HP.out.held (by simp)
         clear hK K
         try simp only [Act.put, lg]
         try simp only [lz]
         exact HUB _ _ _ (by kernel_rfl) ⟨P8, P15, P25, ao9, cap9, ao16, cap16, ao26, cap26, by simp only [lz], HP.out.sub (by simp)⟩
     · skip
       try rw [HWQ.out]
       go_simp
       have HPn := Lib.hid (HP.out.alloc #[.int .i64 s.ck] 3)
       obtain ⟨P25, hP25⟩ : ∃ z, z = wq.heap.size := ⟨_, rfl⟩
       rw [← hP25] at HPn ⊢
       generalize wq.alloc (.cells #[.int .i64 s.ck] 3) = wn at HPn ⊢
       clear HP hP25
       rename World => wq
       have HP := HPn
       clear HPn
       go_wp2_with fail
       refine hK.out _ _ ?_ (fun hHeld => ?_)
       · exact HP.out.held (by simp)
       clear hK K
       try simp only [Act.put, lg]
       try simp only [lz]
       refine walkD_ready (rs := [9, 15]) (by kernel_rfl) (by simp) ?_
       refine AllD.cons rfl (fun K hK => ?_) (AllD.op rfl rfl (fun K hK => ?_) (AllD.nil))
       · skip
         try rw [HWQ.out]
         refine P3.stE HP.out P8 x (by simp [EV.cells]) (by rfl) _ _ (by rfl) (by rfl) (by rfl) hln4 (fun ao9 cap9 wn hP => ?_)
         have HPn := Lib.hid hP
         clear HP hP
         rename World => wq
         have HP := HPn
         clear HPn
         go_wp2_with fail
         refine hK.out _ _ ?_ (fun hHeld => ?_)
         · exact HP.out.held (by simp)
         clear hK K
         try simp only [Act.put, lg]
         try simp only [lz]
         try rw [HWQ.out]
         refine walkD_ready (rs := [15]) (by kernel_rfl) (by simp) ?_
         refine AllD.op rfl rfl (fun K hK => ?_) AllD.nil
         go_simp
         have HPn := Lib.hid (HP.out.alloc #[.int .i64 p] 3)
         obtain ⟨P15, hP15⟩ : ∃ z, z = wq.heap.size := ⟨_, rfl⟩
         rw [← hP15] at HPn ⊢
         generalize wq.alloc (.cells #[.int .i64 p] 3) = wn at HPn ⊢
         clear HP hP15
         rename World => wq
         have HP := HPn
         clear HPn
         go_wp2_with fail
         refine hK.out _ _ ?_ (fun hHeld => ?_)
         · exact HP.out.held (by simp)
         clear hK K
         try simp only [Act.put, lg]
         try simp only [lz]
         try rw [HWQ.out]
         refine walkD_ready (rs := [16]) (by kernel_rfl) (by simp) ?_
         refine AllD.cons rfl (fun K hK => ?_) AllD.nil
         refine P3.stW HP.out P15 p (by simp [EV.cells]) (by rfl) _ _ (by rfl) (by rfl) (by rfl) hln4 (fun ao16 cap16 wn hP => ?_)
         have HPn := Lib.hid hP
         clear HP hP
         rename World => wq
         have HP := HPn
         clear HPn
         go_wp2_with fail
         refine hK.out _ _ ?_ (fun hHeld => ?_)
         · exact HP.out.held (by simp)
         clear hK K
         try simp only [Act.put, lg]
         try simp only [lz]
         try rw [HWQ.out]
         refine walkD_ready (rs := [26]) (by kernel_rfl) (by simp) ?_
         refine AllD.cons rfl (fun K hK => ?_) AllD.nil
         refine P3.stN HP.out P25 s.ck (by simp [EV.cells]) (by rfl) _ _ (by rfl) (by rfl) (by rfl) hln4 (fun ao26 cap26 wn hP => ?_)
         have HPn := Lib.hid hP
         clear HP hP
         rename World => wq
         have HP := HPn
         clear HPn
         go_wp2_with fail
         refine hK.out _ _ ?_ (fun hHeld => ?_)
         · exact HP.out.held (by simp)
         clear hK K
         try simp only [Act.put, lg]
         try simp only [lz]
         exact HUB _ _ _ (by kernel_rfl) ⟨P8, P15, P25, ao9, cap9, ao16, cap16, ao26, cap26, by simp only [lz], HP.out.sub (by simp)⟩
       · skip
         try rw [HWQ.out]
         go_simp
         have HPn := Lib.hid (HP.out.alloc #[.int .i64 p] 3)
         obtain ⟨P15, hP15⟩ : ∃ z, z = wq.heap.size := ⟨_, rfl⟩
         rw [← hP15] at HPn ⊢
         generalize wq.alloc (.cells #[.int .i64 p] 3) = wn at HPn ⊢
         clear HP hP15
         rename World => wq
         have HP := HPn
         clear HPn
         go_wp2_with fail
         refine hK.out _ _ ?_ (fun hHeld => ?_)
         · exact HP.out.held (by simp)
         clear hK K
         try simp only [Act.put, lg]
         try simp only [lz]
         try rw [HWQ.out]
         refine walkD_ready (rs := [9]) (by kernel_rfl) (by simp) ?_
         refine AllD.cons rfl (fun K hK => ?_) AllD.nil
         refine P3.stE HP.out P8 x (by simp [EV.cells]) (by rfl) _ _ (by rfl) (by rfl) (by rfl) hln4 (fun ao9 cap9 wn hP => ?_)
         have HPn := Lib.hid hP
         clear HP hP
         rename World => wq
         have HP := HPn
         clear HPn
         go_wp2_with fail
         refine hK.out _ _ ?_ (fun hHeld => ?_)
         · exact HP.out.held (by simp)
         clear hK K
         try simp only [Act.put, lg]
         try simp only [lz]
         try rw [HWQ.out]
         refine walkD_ready (rs := [16]) (by kernel_rfl) (by simp) ?_
         refine AllD.cons rfl (fun K hK => ?_) AllD.nil
         refine P3.stW HP.out P15 p (by simp [EV.cells]) (by rfl) _ _ (by rfl) (by rfl) (by rfl) hln4 (fun ao16 cap16 wn hP => ?_)
         have HPn := Lib.hid hP
         clear HP hP
         rename World => wq
         have HP := HPn
         clear HPn
         go_wp2_with fail
         refine hK.out _ _ ?_ (fun hHeld => ?_)
         · exact HP.out.held (by simp)
         clear hK K
         try simp only [Act.put, lg]
         try simp only [lz]
         try rw [HWQ.out]
         refine walkD_ready (rs := [26]) (by kernel_rfl) (by simp) ?_
         refine AllD.cons rfl (fun K hK => ?_) AllD.nil
         refine P3.stN HP.out P25 s.ck (by simp [EV.cells]) (by rfl) _ _ (by rfl) (by rfl) (by rfl) hln4 (fun ao26 cap26 wn hP => ?_)
         have HPn := Lib.hid hP
         clear HP hP
         rename World => wq
         have HP := HPn
         clear HPn
         go_wp2_with fail
         refine hK.out _ _ ?_ (fun hHeld => ?_)
         · exact HP.out.held (by simp)
         clear hK K
         try simp only [Act.put, lg]
         try simp only [lz]
         exact HUB _ _ _ (by kernel_rfl) ⟨P8, P15, P25, ao9, cap9, ao16, cap16, ao26, cap26, by simp only [lz], HP.out.sub (by simp)⟩
   · skip
     try rw [HWQ.out]
     go_simp
     have HPn := Lib.hid (HP.out.alloc #[.int .i64 p] 3)
     obtain ⟨P15, hP15⟩ : ∃ z, z = wq.heap.size := ⟨_, rfl⟩
     rw [← hP15] at HPn ⊢
     generalize wq.alloc (.cells #[.int .i64 p] 3) = wn at HPn ⊢
     clear HP hP15
     rename World => wq
     have HP := HPn
     clear HPn
     go_wp2_with fail
     refine hK.out _ _ ?_ (fun hHeld => ?_)
     · exact HP.out.held (by simp)
     clear hK K
     try simp only [Act.put, lg]
     try simp only [lz]
     refine walkD_ready (rs := [8, 25]) (by kernel_rfl) (by simp) ?_
     refine AllD.op rfl rfl (fun K hK => ?_) (AllD.op rfl rfl (fun K hK => ?_) (AllD.nil))
     · skip
       try rw [HWQ.out]
       go_simp
       have HPn := Lib.hid (HP.out.alloc #[.int .i64 x.k, .int .i64 x.f, .int .i64 x.t, .int .i64 x.a, .int .i64 x.n, .int .i64 x.i, .int .i64 x.d, .string x.h, .string x.s] 55)
       obtain ⟨P8, hP8⟩ : ∃ z, z = wq.heap.size := ⟨_, rfl⟩
       rw [← hP8] at HPn ⊢
       generalize wq.alloc (.cells #[.int .i64 x.k, .int .i64 x.f, .int .i64 x.t, .int .i64 x.a, .int .i64 x.n, .int .i64 x.i, .int .i64 x.d, .string x.h, .string x.s] 55) = wn at HPn ⊢
       clear HP hP8
       rename World => wq
       have HP := HPn
       clear HPn
       go_wp2_with fail
       refine hK.out _ _ ?_ (fun hHeld => ?_)
       · exact HP.out.held (by simp)
       clear hK K
       try simp only [Act.put, lg]
       try simp only [lz]
       refine walkD_ready (rs := [9, 25]) (by kernel_rfl) (by simp) ?_
       refine AllD.cons rfl (fun K hK => ?_) (AllD.op rfl rfl (fun K hK => ?_) (AllD.nil))
       · skip
         try rw [HWQ.out]
         refine P3.stE HP.out P8 x (by simp [EV.cells]) (by rfl) _ _ (by rfl) (by rfl) (by rfl) hln4 (fun ao9 cap9 wn hP => ?_)
         have HPn := Lib.hid hP
         clear HP hP
         rename World => wq
         have HP := HPn
         clear HPn
         go_wp2_with fail
         refine hK.out _ _ ?_ (fun hHeld => ?_)
         · exact HP.out.held (by simp)
         clear hK K
         try simp only [Act.put, lg]
         try simp only [lz]
         refine walkD_ready (rs := [16, 25]) (by kernel_rfl) (by simp) ?_
         refine AllD.cons rfl (fun K hK => ?_) (AllD.op rfl rfl (fun K hK => ?_) (AllD.nil))
         · skip
           try rw [HWQ.out]
           refine P3.stW HP.out P15 p (by simp [EV.cells]) (by rfl) _ _ (by rfl) (by rfl) (by rfl) hln4 (fun ao16 cap16 wn hP => ?_)
           have HPn := Lib.hid hP
           clear HP hP
           rename World => wq
           have HP := HPn
           clear HPn
           go_wp2_with fail
           refine hK.out _ _ ?_ (fun hHeld => ?_)
           · exact HP.out.held (by simp)
           clear hK K
           try simp only [Act.put, lg]
           try simp only [lz]
           try rw [HWQ.out]
           refine walkD_ready (rs := [25]) (by kernel_rfl) (by simp) ?_
           refine AllD.op rfl rfl (fun K hK => ?_) AllD.nil
           go_simp
           have HPn := Lib.hid (HP.out.alloc #[.int .i64 s.ck] 3)
           obtain ⟨P25, hP25⟩ : ∃ z, z = wq.heap.size := ⟨_, rfl⟩
           rw [← hP25] at HPn ⊢
           generalize wq.alloc (.cells #[.int .i64 s.ck] 3) = wn at HPn ⊢
           clear HP hP25
           rename World => wq
           have HP := HPn
           clear HPn
           go_wp2_with fail
           refine hK.out _ _ ?_ (fun hHeld => ?_)
           · exact HP.out.held (by simp)
           clear hK K
           try simp only [Act.put, lg]
           try simp only [lz]
           try rw [HWQ.out]
           refine walkD_ready (rs := [26]) (by kernel_rfl) (by simp) ?_
           refine AllD.cons rfl (fun K hK => ?_) AllD.nil
           refine P3.stN HP.out P25 s.ck (by simp [EV.cells]) (by rfl) _ _ (by rfl) (by rfl) (by rfl) hln4 (fun ao26 cap26 wn hP => ?_)
           have HPn := Lib.hid hP
           clear HP hP
           rename World => wq
           have HP := HPn
           clear HPn
           go_wp2_with fail
           refine hK.out _ _ ?_ (fun hHeld => ?_)
           · exact HP.out.held (by simp)
           clear hK K
           try simp only [Act.put, lg]
           try simp only [lz]
           exact HUB _ _ _ (by kernel_rfl) ⟨P8, P15, P25, ao9, cap9, ao16, cap16, ao26, cap26, by simp only [lz], HP.out.sub (by simp)⟩
         · skip
           try rw [HWQ.out]
           go_simp
           have HPn := Lib.hid (HP.out.alloc #[.int .i64 s.ck] 3)
           obtain ⟨P25, hP25⟩ : ∃ z, z = wq.heap.size := ⟨_, rfl⟩
           rw [← hP25] at HPn ⊢
           generalize wq.alloc (.cells #[.int .i64 s.ck] 3) = wn at HPn ⊢
           clear HP hP25
           rename World => wq
           have HP := HPn
           clear HPn
           go_wp2_with fail
           refine hK.out _ _ ?_ (fun hHeld => ?_)
           · exact HP.out.held (by simp)
           clear hK K
           try simp only [Act.put, lg]
           try simp only [lz]
           try rw [HWQ.out]
           refine walkD_ready (rs := [16]) (by kernel_rfl) (by simp) ?_
           refine AllD.cons rfl (fun K hK => ?_) AllD.nil
           refine P3.stW HP.out P15 p (by simp [EV.cells]) (by rfl) _ _ (by rfl) (by rfl) (by rfl) hln4 (fun ao16 cap16 wn hP => ?_)
           have HPn := Lib.hid hP
           clear HP hP
           rename World => wq
           have HP := HPn
           clear HPn
           go_wp2_with fail
           refine hK.out _ _ ?_ (fun hHeld => ?_)
           · exact HP.out.held (by simp)
           clear hK K
           try simp only [Act.put, lg]
           try simp only [lz]
           try rw [HWQ.out]
           refine walkD_ready (rs := [26]) (by kernel_rfl) (by simp) ?_
           refine AllD.cons rfl (fun K hK => ?_) AllD.nil
           refine P3.stN HP.out P25 s.ck (by simp [EV.cells]) (by rfl) _ _ (by rfl) (by rfl) (by rfl) hln4 (fun ao26 cap26 wn hP => ?_)
           have HPn := Lib.hid hP
           clear HP hP
           rename World => wq
           have HP := HPn
           clear HPn
           go_wp2_with fail
           refine hK.out _ _ ?_ (fun hHeld => ?_)
           · exact HP.out.held (by simp)
           clear hK K
           try simp only [Act.put, lg]
           try simp only [lz]
           exact HUB _ _ _ (by kernel_rfl) ⟨P8, P15, P25, ao9, cap9, ao16, cap16, ao26, cap26, by simp only [lz], HP.out.sub (by simp)⟩
       · skip
         try rw [HWQ.out]
         go_simp
         have HPn := Lib.hid (HP.out.alloc #[.int .i64 s.ck] 3)
         obtain ⟨P25, hP25⟩ : ∃ z, z = wq.heap.size := ⟨_, rfl⟩
         rw [← hP25] at HPn ⊢
         generalize wq.alloc (.cells #[.int .i64 s.ck] 3) = wn at HPn ⊢
         clear HP hP25
         rename World => wq
         have HP := HPn
         clear HPn
         go_wp2_with fail
         refine hK.out _ _ ?_ (fun hHeld => ?_)
         · exact HP.out.held (by simp)
         clear hK K
         try simp only [Act.put, lg]
         try simp only [lz]
         try rw [HWQ.out]
         refine walkD_ready (rs := [9]) (by kernel_rfl) (by simp) ?_
         refine AllD.cons rfl (fun K hK => ?_) AllD.nil
         refine P3.stE HP.out P8 x (by simp [EV.cells]) (by rfl) _ _ (by rfl) (by rfl) (by rfl) hln4 (fun ao9 cap9 wn hP => ?_)
         have HPn := Lib.hid hP
         clear HP hP
         rename World => wq
         have HP := HPn
         clear HPn
         go_wp2_with fail
         refine hK.out _ _ ?_ (fun hHeld => ?_)
         · exact HP.out.held (by simp)
         clear hK K
         try simp only [Act.put, lg]
         try simp only [lz]
         try rw [HWQ.out]
         refine walkD_ready (rs := [16]) (by kernel_rfl) (by simp) ?_
         refine AllD.cons rfl (fun K hK => ?_) AllD.nil
         refine P3.stW HP.out P15 p (by simp [EV.cells]) (by rfl) _ _ (by rfl) (by rfl) (by rfl) hln4 (fun ao16 cap16 wn hP => ?_)
         have HPn := Lib.hid hP
         clear HP hP
         rename World => wq
         have HP := HPn
         clear HPn
         go_wp2_with fail
         refine hK.out _ _ ?_ (fun hHeld => ?_)
         · exact HP.out.held (by simp)
         clear hK K
         try simp only [Act.put, lg]
         try simp only [lz]
         try rw [HWQ.out]
         refine walkD_ready (rs := [26]) (by kernel_rfl) (by simp) ?_
         refine AllD.cons rfl (fun K hK => ?_) AllD.nil
         refine P3.stN HP.out P25 s.ck (by simp [EV.cells]) (by rfl) _ _ (by rfl) (by rfl) (by rfl) hln4 (fun ao26 cap26 wn hP => ?_)
         have HPn := Lib.hid hP
         clear HP hP
         rename World => wq
         have HP := HPn
         clear HPn
         go_wp2_with fail
         refine hK.out _ _ ?_ (fun hHeld => ?_)
         · exact HP.out.held (by simp)
         clear hK K
         try simp only [Act.put, lg]
         try simp only [lz]
         exact HUB _ _ _ (by kernel_rfl) ⟨P8, P15, P25, ao9, cap9, ao16, cap16, ao26, cap26, by simp only [lz], HP.out.sub (by simp)⟩
     · skip
       try rw [HWQ.out]
       go_simp
       have HPn := Lib.hid (HP.out.alloc #[.int .i64 s.ck] 3)
       obtain ⟨P25, hP25⟩ : ∃ z, z = wq.heap.size := ⟨_, rfl⟩
       rw [← hP25] at HPn ⊢
       generalize wq.alloc (.cells #[.int .i64 s.ck] 3) = wn at HPn ⊢
       clear HP hP25
       rename World => wq
       have HP := HPn
       clear HPn
       go_wp2_with fail
       refine hK.out _ _ ?_ (fun hHeld => ?_)
       · exact HP.out.held (by simp)
       clear hK K
       try simp only [Act.put, lg]
       try simp only [lz]
       try rw [HWQ.out]
       refine walkD_ready (rs := [8]) (by kernel_rfl) (by simp) ?_
       refine AllD.op rfl rfl (fun K hK => ?_) AllD.nil
       go_simp
       have HPn := Lib.hid (HP.out.alloc #[.int .i64 x.k, .int .i64 x.f, .int .i64 x.t, .int .i64 x.a, .int .i64 x.n, .int .i64 x.i, .int .i64 x.d, .string x.h, .string x.s] 55)
       obtain ⟨P8, hP8⟩ : ∃ z, z = wq.heap.size := ⟨_, rfl⟩
       rw [← hP8] at HPn ⊢
       generalize wq.alloc (.cells #[.int .i64 x.k, .int .i64 x.f, .int .i64 x.t, .int .i64 x.a, .int .i64 x.n, .int .i64 x.i, .int .i64 x.d, .string x.h, .string x.s] 55) = wn at HPn ⊢
       clear HP hP8
       rename World => wq
       have HP := HPn
       clear HPn
       go_wp2_with fail
       refine hK.out _ _ ?_ (fun hHeld => ?_)
       · exact HP.out.held (by simp)
       clear hK K
       try simp only [Act.put, lg]
       try simp only [lz]
       try rw [HWQ.out]
       refine walkD_ready (rs := [9]) (by kernel_rfl) (by simp) ?_
       refine AllD.cons rfl (fun K hK => ?_) AllD.nil
       refine P3.stE HP.out P8 x (by simp [EV.cells]) (by rfl) _ _ (by rfl) (by rfl) (by rfl) hln4 (fun ao9 cap9 wn hP => ?_)
       have HPn := Lib.hid hP
       clear HP hP
       rename World => wq
       have HP := HPn
       clear HPn
       go_wp2_with fail
       refine hK.out _ _ ?_ (fun hHeld => ?_)
       · exact HP.out.held (by simp)
       clear hK K
       try simp only [Act.put, lg]
       try simp only [lz]
       try rw [HWQ.out]
       refine walkD_ready (rs := [16]) (by kernel_rfl) (by simp) ?_
       refine AllD.cons rfl (fun K hK => ?_) AllD.nil
       refine P3.stW HP.out P15 p (by simp [EV.cells]) (by rfl) _ _ (by rfl) (by rfl) (by rfl) hln4 (fun ao16 cap16 wn hP => ?_)
       have HPn := Lib.hid hP
       clear HP hP
       rename World => wq
       have HP := HPn
       clear HPn
       go_wp2_with fail
       refine hK.out _ _ ?_ (fun hHeld => ?_)
       · exact HP.out.held (by simp)
       clear hK K
       try simp only [Act.put, lg]
       try simp only [lz]
       try rw [HWQ.out]
       refine walkD_ready (rs := [26]) (by kernel_rfl) (by simp) ?_
       refine AllD.cons rfl (fun K hK => ?_) AllD.nil
       refine P3.stN HP.out P25 s.ck (by simp [EV.cells]) (by rfl) _ _ (by rfl) (by rfl) (by rfl) hln4 (fun ao26 cap26 wn hP => ?_)
       have HPn := Lib.hid hP
       clear HP hP
       rename World => wq
       have HP := HPn
       clear HPn
       go_wp2_with fail
       refine hK.out _ _ ?_ (fun hHeld => ?_)
       · exact HP.out.held (by simp)
       clear hK K
       try simp only [Act.put, lg]
       try simp only [lz]
       exact HUB _ _ _ (by kernel_rfl) ⟨P8, P15, P25, ao9, cap9, ao16, cap16, ao26, cap26, by simp only [lz], HP.out.sub (by simp)⟩
   · skip
     try rw [HWQ.out]
     go_simp
     have HPn := Lib.hid (HP.out.alloc #[.int .i64 s.ck] 3)
     obtain ⟨P25, hP25⟩ : ∃ z, z = wq.heap.size := ⟨_, rfl⟩
     rw [← hP25] at HPn ⊢
     generalize wq.alloc (.cells #[.int .i64 s.ck] 3) = wn at HPn ⊢
     clear HP hP25
     rename World => wq
     have HP := HPn
     clear HPn
     go_wp2_with fail
     refine hK.out _ _ ?_ (fun hHeld => ?_)
     · exact HP.out.held (by simp)
     clear hK K
     try simp only [Act.put, lg]
     try simp only [lz]
     refine walkD_ready (rs := [8, 15]) (by kernel_rfl) (by simp) ?_
     refine AllD.op rfl rfl (fun K hK => ?_) (AllD.op rfl rfl (fun K hK => ?_) (AllD.nil))
     · skip
       try rw [HWQ.out]
       go_simp
       have HPn := Lib.hid (HP.out.alloc #[.int .i64 x.k, .int .i64 x.f, .int .i64 x.t, .int .i64 x.a, .int .i64 x.n, .int .i64 x.i, .int .i64 x.d, .string x.h, .string x.s] 55)
       obtain ⟨P8, hP8⟩ : ∃ z, z = wq.heap.size := ⟨_, rfl⟩
       rw [← hP8] at HPn ⊢
       generalize wq.alloc (.cells #[.int .i64 x.k, .int .i64 x.f, .int .i64 x.t, .int .i64 x.a, .int .i64 x.n, .int .i64 x.i, .int .i64 x.d, .string x.h, .string x.s] 55) = wn at HPn ⊢
       clear HP hP8
       rename World => wq
       have HP := HPn
       clear HPn
       go_wp2_with fail
       refine hK.out _ _ ?_ (fun hHeld => ?_)
       · exact HP.out.held (by simp)
       clear hK K
       try simp only [Act.put, lg]
       try simp only [lz]
       refine walkD_ready (rs := [9, 15]) (by kernel_rfl) (by simp) ?_
       refine AllD.cons rfl (fun K hK => ?_) (AllD.op rfl rfl (fun K hK => ?_) (AllD.nil))
       · skip
         try rw [HWQ.out]
         refine P3.stE HP.out P8 x (by simp [EV.cells]) (by rfl) _ _ (by rfl) (by rfl) (by rfl) hln4 (fun ao9 cap9 wn hP => ?_)
         have HPn := Lib.hid hP
         clear HP hP
         rename World => wq
         have HP := HPn
         clear HPn
         go_wp2_with fail
         refine hK.out _ _ ?_ (fun hHeld => ?_)
         · exact HP.out.held (by simp)
         clear hK K
         try simp only [Act.put, lg]
         try simp only [lz]
         try rw [HWQ.out]
         refine walkD_ready (rs := [15]) (by kernel_rfl) (by simp) ?_
         refine AllD.op rfl rfl (fun K hK => ?_) AllD.nil
         go_simp
         have HPn := Lib.hid (HP.out.alloc #[.int .i64 p] 3)
         obtain ⟨P15, hP15⟩ : ∃ z, z = wq.heap.size := ⟨_, rfl⟩
         rw [← hP15] at HPn ⊢
         generalize wq.alloc (.cells #[.int .i64 p] 3) = wn at HPn ⊢
         clear HP hP15
         rename World => wq
         have HP := HPn
         clear HPn
         go_wp2_with fail
         refine hK.out _ _ ?_ (fun hHeld => ?_)
         · exact HP.out.held (by simp)
         clear hK K
         try simp only [Act.put, lg]
         try simp only [lz]
         try rw [HWQ.out]
         refine walkD_ready (rs := [16]) (by kernel_rfl) (by simp) ?_
         refine AllD.cons rfl (fun K hK => ?_) AllD.nil
         refine P3.stW HP.out P15 p (by simp [EV.cells]) (by rfl) _ _ (by rfl) (by rfl) (by rfl) hln4 (fun ao16 cap16 wn hP => ?_)
         have HPn := Lib.hid hP
         clear HP hP
         rename World => wq
         have HP := HPn
         clear HPn
         go_wp2_with fail
         refine hK.out _ _ ?_ (fun hHeld => ?_)
         · exact HP.out.held (by simp)
         clear hK K
         try simp only [Act.put, lg]
         try simp only [lz]
         try rw [HWQ.out]
         refine walkD_ready (rs := [26]) (by kernel_rfl) (by simp) ?_
         refine AllD.cons rfl (fun K hK => ?_) AllD.nil
         refine P3.stN HP.out P25 s.ck (by simp [EV.cells]) (by rfl) _ _ (by rfl) (by rfl) (by rfl) hln4 (fun ao26 cap26 wn hP => ?_)
         have HPn := Lib.hid hP
         clear HP hP
         rename World => wq
         have HP := HPn
         clear HPn
         go_wp2_with fail
         refine hK.out _ _ ?_ (fun hHeld => ?_)
         · exact HP.out.held (by simp)
         clear hK K
         try simp only [Act.put, lg]
         try simp only [lz]
         exact HUB _ _ _ (by kernel_rfl) ⟨P8, P15, P25, ao9, cap9, ao16, cap16, ao26, cap26, by simp only [lz], HP.out.sub (by simp)⟩
       · skip
         try rw [HWQ.out]
         go_simp
         have HPn := Lib.hid (HP.out.alloc #[.int .i64 p] 3)
         obtain ⟨P15, hP15⟩ : ∃ z, z = wq.heap.size := ⟨_, rfl⟩
         rw [← hP15] at HPn ⊢
         generalize wq.alloc (.cells #[.int .i64 p] 3) = wn at HPn ⊢
         clear HP hP15
         rename World => wq
         have HP := HPn
         clear HPn
         go_wp2_with fail
         refine hK.out _ _ ?_ (fun hHeld => ?_)
         · exact HP.out.held (by simp)
         clear hK K
         try simp only [Act.put, lg]
         try simp only [lz]
         try rw [HWQ.out]
         refine walkD_ready (rs := [9]) (by kernel_rfl) (by simp) ?_
         refine AllD.cons rfl (fun K hK => ?_) AllD.nil
         refine P3.stE HP.out P8 x (by simp [EV.cells]) (by rfl) _ _ (by rfl) (by rfl) (by rfl) hln4 (fun ao9 cap9 wn hP => ?_)
         have HPn := Lib.hid hP
         clear HP hP
         rename World => wq
         have HP := HPn
         clear HPn
         go_wp2_with fail
         refine hK.out _ _ ?_ (fun hHeld => ?_)
         · exact HP.out.held (by simp)
         clear hK K
         try simp only [Act.put, lg]
         try simp only [lz]
         try rw [HWQ.out]
         refine walkD_ready (rs := [16]) (by kernel_rfl) (by simp) ?_
         refine AllD.cons rfl (fun K hK => ?_) AllD.nil
         refine P3.stW HP.out P15 p (by simp [EV.cells]) (by rfl) _ _ (by rfl) (by rfl) (by rfl) hln4 (fun ao16 cap16 wn hP => ?_)
         have HPn := Lib.hid hP
         clear HP hP
         rename World => wq
         have HP := HPn
         clear HPn
         go_wp2_with fail
         refine hK.out _ _ ?_ (fun hHeld => ?_)
         · exact HP.out.held (by simp)
         clear hK K
         try simp only [Act.put, lg]
         try simp only [lz]
         try rw [HWQ.out]
         refine walkD_ready (rs := [26]) (by kernel_rfl) (by simp) ?_
         refine AllD.cons rfl (fun K hK => ?_) AllD.nil
         refine P3.stN HP.out P25 s.ck (by simp [EV.cells]) (by rfl) _ _ (by rfl) (by rfl) (by rfl) hln4 (fun ao26 cap26 wn hP => ?_)
         have HPn := Lib.hid hP
         clear HP hP
         rename World => wq
         have HP := HPn
         clear HPn
         go_wp2_with fail
         refine hK.out _ _ ?_ (fun hHeld => ?_)
         · exact HP.out.held (by simp)
         clear hK K
         try simp only [Act.put, lg]
         try simp only [lz]
         exact HUB _ _ _ (by kernel_rfl) ⟨P8, P15, P25, ao9, cap9, ao16, cap16, ao26, cap26, by simp only [lz], HP.out.sub (by simp)⟩
     · skip
       try rw [HWQ.out]
       go_simp
       have HPn := Lib.hid (HP.out.alloc #[.int .i64 p] 3)
       obtain ⟨P15, hP15⟩ : ∃ z, z = wq.heap.size := ⟨_, rfl⟩
       rw [← hP15] at HPn ⊢
       generalize wq.alloc (.cells #[.int .i64 p] 3) = wn at HPn ⊢
       clear HP hP15
       rename World => wq
       have HP := HPn
       clear HPn
       go_wp2_with fail
       refine hK.out _ _ ?_ (fun hHeld => ?_)
       · exact HP.out.held (by simp)
       clear hK K
       try simp only [Act.put, lg]
       try simp only [lz]
       try rw [HWQ.out]
       refine walkD_ready (rs := [8]) (by kernel_rfl) (by simp) ?_
       refine AllD.op rfl rfl (fun K hK => ?_) AllD.nil
       go_simp
       have HPn := Lib.hid (HP.out.alloc #[.int .i64 x.k, .int .i64 x.f, .int .i64 x.t, .int .i64 x.a, .int .i64 x.n, .int .i64 x.i, .int .i64 x.d, .string x.h, .string x.s] 55)
       obtain ⟨P8, hP8⟩ : ∃ z, z = wq.heap.size := ⟨_, rfl⟩
       rw [← hP8] at HPn ⊢
       generalize wq.alloc (.cells #[.int .i64 x.k, .int .i64 x.f, .int .i64 x.t, .int .i64 x.a, .int .i64 x.n, .int .i64 x.i, .int .i64 x.d, .string x.h, .string x.s] 55) = wn at HPn ⊢
       clear HP hP8
       rename World => wq
       have HP := HPn
       clear HPn
       go_wp2_with fail
       refine hK.out _ _ ?_ (fun hHeld => ?_)
       · exact HP.out.held (by simp)
       clear hK K
       try simp only [Act.put, lg]
       try simp only [lz]
       try rw [HWQ.out]
       refine walkD_ready (rs := [9]) (by kernel_rfl) (by simp) ?_
       refine AllD.cons rfl (fun K hK => ?_) AllD.nil
       refine P3.stE HP.out P8 x (by simp [EV.cells]) (by rfl) _ _ (by rfl) (by rfl) (by rfl) hln4 (fun ao9 cap9 wn hP => ?_)
       have HPn := Lib.hid hP
       clear HP hP
       rename World => wq
       have HP := HPn
       clear HPn
       go_wp2_with fail
       refine hK.out _ _ ?_ (fun hHeld => ?_)
       · exact HP.out.held (by simp)
       clear hK K
       try simp only [Act.put, lg]
       try simp only [lz]
       try rw [HWQ.out]
       refine walkD_ready (rs := [16]) (by kernel_rfl) (by simp) ?_
       refine AllD.cons rfl (fun K hK => ?_) AllD.nil
       refine P3.stW HP.out P15 p (by simp [EV.cells]) (by rfl) _ _ (by rfl) (by rfl) (by rfl) hln4 (fun ao16 cap16 wn hP => ?_)
       have HPn := Lib.hid hP
       clear HP hP
       rename World => wq
       have HP := HPn
       clear HPn
       go_wp2_with fail
       refine hK.out _ _ ?_ (fun hHeld => ?_)
       · exact HP.out.held (by simp)
       clear hK K
       try simp only [Act.put, lg]
       try simp only [lz]
       try rw [HWQ.out]
       refine walkD_ready (rs := [26]) (by kernel_rfl) (by simp) ?_
       refine AllD.cons rfl (fun K hK => ?_) AllD.nil
       refine P3.stN HP.out P25 s.ck (by simp [EV.cells]) (by rfl) _ _ (by rfl) (by rfl) (by rfl) hln4 (fun ao26 cap26 wn hP => ?_)
       have HPn := Lib.hid hP
       clear HP hP
       rename World => wq
       have HP := HPn
       clear HPn
       go_wp2_with fail
       refine hK.out _ _ ?_ (fun hHeld => ?_)
       · exact HP.out.held (by simp)
       clear hK K
       try simp only [Act.put, lg]
       try simp only [lz]
       exact HUB _ _ _ (by kernel_rfl) ⟨P8, P15, P25, ao9, cap9, ao16, cap16, ao26, cap26, by simp only [lz], HP.out.sub (by simp)⟩
  case rest => as_aux_lemma =>
   obtain ⟨ve2, vw2, vn2, hx, hfp, hr, hz, hv, hk⟩ := hcut
   rename World => w7
   obtain ⟨r0, -⟩ := hr.all
   obtain ⟨-, -, -, -, -, v5, -⟩ := hv.all
   have y0 := blk_frozen hz 0
   have y1 := blk_frozen hz 1
   have z0 := blk_cell hz 0
   have z1 := blk_cell hz 1
   simp only [lq] at z0 z1
   have HFIN : Hid (∀ i0 : Int, RpB (fillR w7 (R + 1) 0 i0) (R + 1) 0 i0 ∧ XLPost S W w n m E s2 T X B q (fillR w7 (R + 1) 0 i0)) := Lib.hid (fun i0 => ⟨fillR_box hz 0 i0, by
    have hkf := fillR_keeps w7 (R + 1) 0 i0
    exact ⟨fun i => xfp Sb2 X ve2 vw2 vn2 i, ⟨Sb2, st, ve2, vw2, vn2, hx.keep hkf (fun i hi hh => (hfp i hh).2 hi) (fun i hi => by rw [hi]; have := HWS.out; have := HRR.out; omega), HI2.out, by rw [HSE.out]; exact HNS2.out, fun i => Iff.rfl⟩, hk.trans hkf (fun i hi => Or.inr (by rw [hi, HRR.out]; omega)), fun i hi => (hfp i hi).1⟩⟩)
   clear hx hfp hr hz hv hk hi90 hi91 hi92 hi93 hi10 hi11 hi12 hi13 c3 c4 c5 c6
   cases hkb : (r.k == 2)
   case true =>
    have HII : Hid (D.i = x.i) := Lib.hid (HDI.out.1 (by simpa using hkb))
    have HFI := Lib.hid (HFIN.out x.i)
    unfold fillR at HFI
    go_upto_region 26 with fail
    go_cut [] (fun wx => RpB wx (R + 1) 0 (x.i) ∧ XLPost S W w n m E s2 T X B q wx)
    case first =>
     go_wp2_with fail
     go_meet
     case rel => exact HFI.out
    case rest =>
     obtain ⟨hzf, hpf⟩ := hcut
     rename World => w8
     have HZF := Lib.hid hzf
     have HPF := Lib.hid hpf
     clear hzf hpf HFI HFIN y0 y1 z0 z1 v5 r0
     have z0 := blk_cell HZF.out 0
     have z1 := blk_cell HZF.out 1
     simp only [lq] at z0 z1
     repeat (first | go_skip | go_guarded | go_step | go_upon)
     refine bodyPost_ret (v := .agg #[.int .i64 0, .int .i64 (x.i)]) (by simp [results, Tryz.results55, go_sem, z0, z1]) rfl ?_
     rw [HII.out, HDI.out.2.2]
     exact ⟨rfl, HPF.out⟩
   case false =>
    have HII : Hid (D.i = 0) := Lib.hid (HDI.out.2.1 (by simpa using hkb))
    have HFI := Lib.hid (HFIN.out 0)
    unfold fillR at HFI
    go_upto_region 27 with fail
    go_cut [] (fun wx => RpB wx (R + 1) 0 (0) ∧ XLPost S W w n m E s2 T X B q wx)
    case first =>
     go_wp2_with fail
     go_meet
     case rel => exact HFI.out
    case rest =>
     obtain ⟨hzf, hpf⟩ := hcut
     rename World => w8
     have HZF := Lib.hid hzf
     have HPF := Lib.hid hpf
     clear hzf hpf HFI HFIN y0 y1 z0 z1 v5 r0
     have z0 := blk_cell HZF.out 0
     have z1 := blk_cell HZF.out 1
     simp only [lq] at z0 z1
     repeat (first | go_skip | go_guarded | go_step | go_upon)
     refine bodyPost_ret (v := .agg #[.int .i64 0, .int .i64 (0)]) (by simp [results, Tryz.results55, go_sem, z0, z1]) rfl ?_
     rw [HII.out, HDI.out.2.2]
     exact ⟨rfl, HPF.out⟩
end
end Go.Proofs.YtkaciaehlibidaaGreat
