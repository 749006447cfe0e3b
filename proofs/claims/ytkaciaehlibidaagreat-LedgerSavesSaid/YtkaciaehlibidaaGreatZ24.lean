/- Parts of the proof: Lag Slc Lld Lx5b Lsn. -/
import Derived.Test.YtkaciaehlibidaaGreatZ01
import Derived.Test.YtkaciaehlibidaaGreatZ02
import Derived.Test.YtkaciaehlibidaaGreatZ12
import Derived.Test.YtkaciaehlibidaaGreatZ13
import Derived.Test.YtkaciaehlibidaaGreatZ14
import Derived.Test.YtkaciaehlibidaaGreatZ21
import Derived.Test.YtkaciaehlibidaaGreatZ23
import Derived.Deep.CutBlock
import Derived.Deep.DeepCutAuto
namespace Go.Proofs.YtkaciaehlibidaaGreat
open Go.RowKit
set_option linter.unusedVariables false
set_option linter.unusedSimpArgs false
set_option maxRecDepth 100000 in
set_option maxHeartbeats 2000000 in
theorem eql_dn (r q : DN) (w : World) : (binOp .eql 106 (.agg r.cells) (.agg q.cells)).run Tryz.prog w = .ok (.bool (eqDN r q)) w := by
 unfold DN.cells eqDN eqEV eqS
 cases h0 : (r.p == q.p)
 · go_simp; try simp [*]
 · skip
   cases h1 : (r.c == q.c)
   · go_simp; try simp [*]
   · skip
     cases h2 : (r.e.k == q.e.k)
     · go_simp; try simp [*]
     · skip
       cases h3 : (r.e.f == q.e.f)
       · go_simp; try simp [*]
       · skip
         cases h4 : (r.e.t == q.e.t)
         · go_simp; try simp [*]
         · skip
           cases h5 : (r.e.a == q.e.a)
           · go_simp; try simp [*]
           · skip
             cases h6 : (r.e.n == q.e.n)
             · go_simp; try simp [*]
             · skip
               cases h7 : (r.e.i == q.e.i)
               · go_simp; try simp [*]
               · skip
                 cases h8 : (r.e.d == q.e.d)
                 · go_simp; try simp [*]
                 · skip
                   cases h9 : (r.e.h.toList == q.e.h.toList)
                   · go_simp; try simp [*]
                   · skip
                     cases h10 : (r.e.s.toList == q.e.s.toList)
                     · go_simp; try simp [*]
                     · go_simp; try simp [*]
theorem rqs_box {w : World} {V : Nat} {r : RQ} (h : RqB w V r) : RqsAt w (some ⟨V, 0, none⟩) [r] := by
 refine Or.inr ⟨V, 0, rfl, fun i hi j u hu => ?_⟩
 have hi0 : i = 0 := by simp at hi; omega
 subst hi0
 rw [show 0 + 0 * 8 + j = j by omega, blk_cell h]
 exact hu
section
variable {S : Nat → Prop} {W w : World} {n m : Nat} {E : Int} {s : LS} {T : Nat → Int} {A B tb q : Nat}
set_option maxRecDepth 100000 in
set_option maxHeartbeats 4000000 in
theorem ledger_again (h : LD S W w n m E s T A B tb q) (d : DN) (hs : d.e.h.size + d.e.s.size ≤ 1000000000) :
 Calls Tryz.prog 43 #[.pointer (some ⟨A, 0, none⟩), .int .i64 d.p, .int .i64 d.c, .agg d.e.cells] w fun e w' => e = .returned (.bool (againB n m E s d)) ∧ LPost S W w n m E (if s.ck ≤ d.c then applyF n m E s d.p d.c [rqOf d.e] else s) T A B tb q w' := by
 have HS := Lib.hid hs
 have HAG : Hid (againB n m E s d = (decide (s.ck ≤ d.c) && (decide ((applyF n m E s d.p d.c [rqOf d.e]).es.length = s.es.length + 1) && eqDN ((applyF n m E s d.p d.c [rqOf d.e]).es.getD s.es.length default) d))) := Lib.hid rfl
 obtain ⟨p, c, x⟩ := d
 dsimp only at HS HAG ⊢
 obtain ⟨sr, hsr⟩ : ∃ sr, sr = (if s.ck ≤ c then applyF n m E s p c [rqOf x] else s) := ⟨_, rfl⟩
 rw [← hsr]
 have HSR := Lib.hid hsr
 generalize againB n m E s ⟨p, c, x⟩ = ag at *
 have HWS := Lib.hid h.bel.size
 clear hsr
 obtain ⟨w1, hw1⟩ : ∃ w1, w1 = w.alloc (.cells x.cells 55) := ⟨_, rfl⟩
 obtain ⟨X, hX⟩ : ∃ X, X = w.heap.size := ⟨_, rfl⟩
 have hb1 : Below w.heap.size w w1 := by rw [hw1]; exact (Below.refl _ _).alloc (Nat.le_refl _) _
 have HX1 : Hid (EvB w1 X x) := Lib.hid (by rw [hw1, hX]; exact heap_alloc_new _ _)
 have HSX : Hid (¬ S X) := Lib.hid (fun hh => by have := h.lt X hh; omega)
 have HD1 := Lib.hid (h.below hb1)
 have HB1 := Lib.hid hb1
 have HW1 := Lib.hid hw1
 have HXX := Lib.hid hX
 have HLT := Lib.hid h.lt
 have HI := Lib.hid h.inv
 unfold EV.cells at HW1
 unfold EV.cells
 obtain ⟨_, _, hd1, _, _⟩ := HD1.out.dat
 obtain ⟨_, _, c3, _⟩ := hd1.cells
 clear hw1 hX hb1 h hs hd1
 go_enter Tryz.func43, Tryz.ntmps43
 go_upto_region 1 with fail
 rw [← HW1.out, ← HXX.out]
 by_cases hck : c < s.ck
 · have HA : Hid (ag = false) := Lib.hid (by rw [HAG.out, show decide (s.ck ≤ c) = false from by rw [decide_eq_false_iff_not]; omega]; rfl)
   have HP : Hid (LPost S W w n m E sr T A B tb q w1) := Lib.hid (by
    rw [HSR.out, if_neg (by omega)]
    exact ⟨S, HD1.out, Keeps.of_below HB1.out, fun i hi => Or.inl hi⟩)
   go_wp2
   go_ret
   rw [HA.out]
   exact ⟨rfl, HP.out⟩
 have HCK : Hid (s.ck ≤ c) := Lib.hid (by omega)
 have HSE : Hid (sr = applyF n m E s p c [rqOf x]) := Lib.hid (by rw [HSR.out, if_pos HCK.out])
 obtain ⟨x0, x1, x2, x3, x4, x5, x6, x7, x8⟩ := HX1.out.all
 obtain ⟨w2, hw2⟩ : ∃ w2, w2 = w1.alloc (.cells x.rq.cells 52) := ⟨_, rfl⟩
 obtain ⟨Q, hQ⟩ : ∃ Q, Q = w1.heap.size := ⟨_, rfl⟩
 have hb2 : Below w1.heap.size w1 w2 := by rw [hw2]; exact (Below.refl _ _).alloc (Nat.le_refl _) _
 have HQ2 : Hid (RqB w2 Q x.rq) := Lib.hid (by rw [hw2, hQ]; exact heap_alloc_new _ _)
 have HSQ : Hid (¬ S Q ∧ Q ≠ X ∧ w.heap.size ≤ Q) := Lib.hid ⟨fun hh => by have := HD1.out.lt Q hh; omega, fun e => by have := blk_lt HX1.out; omega, by rw [hQ]; exact HB1.out.size⟩
 have HD2 := Lib.hid (HD1.out.below hb2)
 have HX2 : Hid (EvB w2 X x) := Lib.hid ((hb2.block X (blk_lt HX1.out)).trans HX1.out)
 have HB2 := Lib.hid (below_step HB1.out hb2)
 have HW2 := Lib.hid hw2
 have HQQ := Lib.hid hQ
 unfold EV.rq RQ.cells at HW2
 dsimp only at HW2
 clear hw2 hQ hb2
 go_upto_region 4 with fail
 rw [← HW2.out, ← HQQ.out]
 clear x0 x1 x2 x3 x4 x5 x6 x7 x8 HW1 HW2 HX1 HD1 c3 hck
 obtain ⟨x0, _⟩ := HX2.out.all
 have q4 := blk_cell HQ2.out 4
 have f4 := blk_frozen HQ2.out 4
 simp only [RQ.cells, lq] at q4
 go_upto_if 36 with fail
 go_cut [] (fun wx => RqB wx Q (rqOf x) ∧ LD S W wx n m E s T A B tb q ∧ EvB wx X x ∧ Below w.heap.size w wx)
 case first =>
  cases hkb : (x.k == 2)
  case true =>
   have hk : x.k = 2 := by simpa using hkb
   obtain ⟨w3, hw3⟩ : ∃ w3, w3 = w2.setCell ⟨Q, 4, none⟩ (.int .i64 0) := ⟨_, rfl⟩
   have hk3 : Keeps (fun i => i = Q) w2 w3 := by rw [hw3]; exact (Keeps.refl (fun i => i = Q) w2).setCell (p := ⟨Q, 4, none⟩) (Or.inl rfl) _
   have HR : Hid (RqB w3 Q (rqOf x) ∧ LD S W w3 n m E s T A B tb q ∧ EvB w3 X x ∧ Below w.heap.size w w3) := Lib.hid ⟨by
    have h1 := blk_set HQ2.out 4 (.int .i64 0)
    rw [← hw3] at h1
    unfold RqB rqOf
    rw [if_pos hk]
    simpa [EV.rq, RQ.cells] using h1, HD2.out.keep hk3 (fun i hi hh => HSQ.out.1 (hi ▸ hh)) (fun i hi => by rw [hi]; have := HSQ.out.2.2; have := HWS.out; omega), HX2.out.keep hk3 (fun e => HSQ.out.2.1 e.symm), below_fp HB2.out hk3 (fun i hi => by rw [hi]; exact HSQ.out.2.2)⟩
   clear hk3 hk
   go_wp2_with fail
   rw [← hw3]
   go_meet
   case rel => exact HR.out
  case false =>
   have HR : Hid (RqB w2 Q (rqOf x)) := Lib.hid (by have h1 := HQ2.out; unfold rqOf; rw [if_neg (by simpa using hkb)]; exact h1)
   go_wp2_with fail
   go_meet
   case rel => exact ⟨HR.out, HD2.out, HX2.out, HB2.out⟩
 case rest =>
 obtain ⟨hq3, hd3, hx3, hb3⟩ := hcut
 rename World => w3
 have HQ3 := Lib.hid hq3
 have HD3 := Lib.hid hd3
 have HX3 := Lib.hid hx3
 have HB3 := Lib.hid hb3
 clear hq3 hd3 hx3 hb3 x0 q4 f4 HD2 HX2 HB2 HQ2
 obtain ⟨ln, hln⟩ : ∃ ln, ln = s.es.length := ⟨_, rfl⟩
 have HLN : Hid (ln = s.es.length ∧ ln ≤ 400) := Lib.hid ⟨hln, by rw [hln]; exact HI.out.len.2.1⟩
 obtain ⟨_, _, hd, _, _⟩ := HD3.out.dat
 obtain ⟨lo, lc, rfl, _, _⟩ := own_shape hd.row
 obtain ⟨_, _, _, c4⟩ := hd.cells
 rw [← hln] at c4
 obtain ⟨y0, y1, y2, y3, y4, y5, y6, y7⟩ := HQ3.out.all
 obtain ⟨rq, hrq⟩ : ∃ rq, rq = rqOf x := ⟨_, rfl⟩
 rw [← hrq] at y0 y1 y2 y3 y4 y5 y6 y7
 have HRQ : Hid (rqOf x = rq ∧ rq.h = x.h ∧ rq.s = x.s) := Lib.hid ⟨hrq.symm, by rw [hrq]; rfl, by rw [hrq]; rfl⟩
 obtain ⟨w4, hw4⟩ : ∃ w4, w4 = w3.alloc (.cells rq.cells 52) := ⟨_, rfl⟩
 obtain ⟨V, hV⟩ : ∃ V, V = w3.heap.size := ⟨_, rfl⟩
 have hb4 : Below w3.heap.size w3 w4 := by rw [hw4]; exact (Below.refl _ _).alloc (Nat.le_refl _) _
 have HV4 : Hid (RqB w4 V rq) := Lib.hid (by rw [hw4, hV]; exact heap_alloc_new _ _)
 have HSV : Hid (¬ S V) := Lib.hid (fun hh => by have := HD3.out.lt V hh; omega)
 have HD4 := Lib.hid (HD3.out.below hb4)
 have HX4 : Hid (EvB w4 X x) := Lib.hid ((hb4.block X (blk_lt HX3.out)).trans HX3.out)
 have HB4 := Lib.hid (below_step HB3.out hb4)
 have HAP := Lib.hid (ledger_apply HD4.out p c 0 (some ⟨V, 0, none⟩) [rq] 1 1 rfl (Nat.le_refl _) (by unfold maxLen; omega) (fun w' hk => rqs_box (HV4.out.keep hk HSV.out)) (fun r hr => by rw [List.mem_singleton] at hr; rw [hr, HRQ.out.2.1, HRQ.out.2.2]; exact HS.out))
 rw [HRQ.out.1] at HSE HAG
 generalize applyF n m E s p c [rq] = s2 at *
 generalize appR n m E s p c [rq] = ys at *
 have HW4 := Lib.hid hw4
 have HVV := Lib.hid hV
 unfold RQ.cells at HW4
 clear hd hln hw4 hV hb4 hrq
 go_wp2_with fail
 rw [← HW4.out, ← HVV.out]
 refine HAP.out.mono ?_
 rintro e w5 ⟨ra, rc, ea, ec, rfl, _, _, _, _, S5, hd5, hk5, hn5, _, _⟩
 have HP5 : Hid (LPost S W w n m E sr T A B tb q w5) := Lib.hid ⟨S5, by rw [HSE.out]; exact hd5, (Keeps.of_below (S := S) HB4.out).trans hk5 (fun i hi => Or.inl hi), fun i hi => by
  rcases hn5 i hi with e | e
  · exact Or.inl e
  · exact Or.inr (Nat.le_trans HB4.out.size e)⟩
 have HD5 := Lib.hid hd5
 have HX5 : Hid (EvB w5 X x) := Lib.hid (HX4.out.keep hk5 HSX.out)
 have HI5 := Lib.hid hd5.inv
 clear hd5 hk5 hn5 c4 y0 y1 y2 y3 y4 y5 y6 y7 HAP HD4 HX4 HW4
 obtain ⟨_, _, hd, _, _⟩ := HD5.out.dat
 obtain ⟨mo, mc, rfl, _, _⟩ := own_shape hd.row
 obtain ⟨_, _, _, c4⟩ := hd.cells
 obtain ⟨l2, hl2⟩ : ∃ l2, l2 = s2.es.length := ⟨_, rfl⟩
 have HL2 : Hid (s2.es.length = l2 ∧ l2 ≤ 400) := Lib.hid ⟨hl2.symm, by rw [hl2]; exact HI5.out.len.2.1⟩
 rw [← hl2] at c4
 obtain ⟨x0, x1, x2, x3, x4, x5, x6, x7, x8⟩ := HX5.out.all
 have n0 : (0 : Int) ≤ (ln : Int) := by omega
 have n4 : (ln : Int) ≤ 400 := by have := HLN.out; omega
 have hw1 : IntKind.i64.wrap ((ln : Int) + 1) = (ln : Int) + 1 := by simp only [IntKind.wrap_i64]; omega
 by_cases hl : l2 = ln + 1
 · have hlt : ln < s2.es.length := by rw [← hl2]; omega
   obtain ⟨g, hg, hc⟩ := hd.dn ln hlt
   subst hg
   have HAE : Hid (ag = eqDN s2.es[ln] ⟨p, c, x⟩) := Lib.hid (by
    rw [HAG.out, show decide (s.ck ≤ c) = true from by rw [decide_eq_true_eq]; exact HCK.out, ← HLN.out.1, show decide (s2.es.length = ln + 1) = true from by rw [decide_eq_true_eq, ← hl2]; exact hl]
    simp [List.getD, hlt])
   have heq := eql_dn s2.es[ln] ⟨p, c, x⟩
   rw [← HAE.out] at heq
   generalize s2.es[ln] = dn at *
   have e0 := hc 0 (by omega)
   have e1 := hc 1 (by omega)
   have e2 := hc 2 (by omega)
   have e3 := hc 3 (by omega)
   have e4 := hc 4 (by omega)
   have e5 := hc 5 (by omega)
   have e6 := hc 6 (by omega)
   have e7 := hc 7 (by omega)
   have e8 := hc 8 (by omega)
   have e9 := hc 9 (by omega)
   have e10 := hc 10 (by omega)
   simp only [DN.cells, lq, Nat.add_zero] at e0 e1 e2 e3 e4 e5 e6 e7 e8 e9 e10
   unfold DN.cells at heq
   dsimp only at heq
   have n1 : (ln : Int) < (l2 : Int) := by omega
   have hb : ((l2 : Int) == (ln : Int) + 1) = true := by simp; omega
   clear hc hd hl hl2 hlt HAE HAG
   go_upto_region 8 with fail
   refine wp_region_held_drew (S := fun w' => w'.cell? ⟨A, 4, none⟩ = some (.slice (some ⟨g, 0, none⟩) l2 mc) ∧ w'.cell? ⟨X, 0, none⟩ = some (.int .i64 x.k) ∧ w'.cell? ⟨X, 1, none⟩ = some (.int .i64 x.f) ∧ w'.cell? ⟨X, 2, none⟩ = some (.int .i64 x.t) ∧ w'.cell? ⟨X, 3, none⟩ = some (.int .i64 x.a) ∧ w'.cell? ⟨X, 4, none⟩ = some (.int .i64 x.n) ∧ w'.cell? ⟨X, 5, none⟩ = some (.int .i64 x.i) ∧ w'.cell? ⟨X, 6, none⟩ = some (.int .i64 x.d) ∧ w'.cell? ⟨X, 7, none⟩ = some (.string x.h) ∧ w'.cell? ⟨X, 8, none⟩ = some (.string x.s) ∧ w'.cell? ⟨g, ln * 11, none⟩ = some (.int .i64 dn.p) ∧ w'.cell? ⟨g, ln * 11 + 1, none⟩ = some (.int .i64 dn.c) ∧ w'.cell? ⟨g, ln * 11 + 2, none⟩ = some (.int .i64 dn.e.k) ∧ w'.cell? ⟨g, ln * 11 + 3, none⟩ = some (.int .i64 dn.e.f) ∧ w'.cell? ⟨g, ln * 11 + 4, none⟩ = some (.int .i64 dn.e.t) ∧ w'.cell? ⟨g, ln * 11 + 5, none⟩ = some (.int .i64 dn.e.a) ∧ w'.cell? ⟨g, ln * 11 + 6, none⟩ = some (.int .i64 dn.e.n) ∧ w'.cell? ⟨g, ln * 11 + 7, none⟩ = some (.int .i64 dn.e.i) ∧ w'.cell? ⟨g, ln * 11 + 8, none⟩ = some (.int .i64 dn.e.d) ∧ w'.cell? ⟨g, ln * 11 + 9, none⟩ = some (.string dn.e.h) ∧ w'.cell? ⟨g, ln * 11 + 10, none⟩ = some (.string dn.e.s)) (by kernel_rfl) ?_ (fun hHeld => ?_)
   · exact ⟨c4, x0, x1, x2, x3, x4, x5, x6, x7, x8, e0, e1, e2, e3, e4, e5, e6, e7, e8, e9, e10⟩
   refine tk 0 50 ?_
   simp only [lz]
   refine tk 1 51 ?_
   simp only [lz]
   refine tk 2 52 ?_
   simp only [lz]
   refine tk 3 53 ?_
   simp only [lz]
   refine tk 4 54 ?_
   simp only [lz]
   refine tk 5 55 ?_
   simp only [lz]
   refine tk 6 56 ?_
   simp only [lz]
   refine tk 7 57 ?_
   simp only [lz]
   refine tk 8 58 ?_
   simp only [lz]
   refine tk 9 59 ?_
   simp only [lz]
   refine tk 10 60 ?_
   simp only [lz]
   refine tk 11 61 ?_
   simp only [lz]
   refine tk 12 62 ?_
   simp only [lz]
   refine tk 13 63 ?_
   simp only [lz]
   refine tk 14 64 ?_
   simp only [lz]
   refine tk 15 65 ?_
   simp only [lz]
   refine tk 16 66 ?_
   simp only [lz]
   refine tk 17 67 ?_
   simp only [lz]
   refine tk 18 68 ?_
   simp only [lz]
   refine tk 19 69 ?_
   simp only [lz]
   refine tk 20 70 ?_
   simp only [lz]
   refine tk 21 71 ?_
   simp only [lz]
   refine tk 22 8 ?_
   simp only [lz]
   refine wpAnyH_done (by kernel_rfl) ?_ _
   clear hHeld c4 x0 x1 x2 x3 x4 x5 x6 x7 x8 e0 e1 e2 e3 e4 e5 e6 e7 e8 e9 e10 heq hb
   go_wp2
   go_ret
   exact ⟨rfl, by
    obtain ⟨S9, h1, h2, h3⟩ := HP5.out
    exact ⟨S9, h1.below (below_drew _), h2.drew, h3⟩⟩
 · have HAF : Hid (ag = false) := Lib.hid (by
    rw [HAG.out, ← HLN.out.1, show decide (s2.es.length = ln + 1) = false from by rw [decide_eq_false_iff_not, ← hl2]; exact hl]
    simp)
   have hb : ((l2 : Int) == (ln : Int) + 1) = false := by simp; omega
   clear hd hl hl2 HAG
   go_upto_region 8 with fail
   refine wp_region_held_drew (S := fun w' => w'.cell? ⟨A, 4, none⟩ = some (.slice mo l2 mc)) (by kernel_rfl) ?_ (fun hHeld => ?_)
   · exact c4
   refine tk 0 50 ?_
   simp only [lz]
   refine tk 1 51 ?_
   simp only [lz]
   refine tk 2 52 ?_
   simp only [lz]
   refine tk 3 53 ?_
   simp only [lz]
   refine tk 4 54 ?_
   simp only [lz]
   refine tk 5 55 ?_
   simp only [lz]
   refine tk 6 56 ?_
   simp only [lz]
   refine tk 7 57 ?_
   simp only [lz]
   refine tk 8 58 ?_
   simp only [lz]
   refine tu 9 59 ?_
   simp only [lz]
   refine tu 10 60 ?_
   simp only [lz]
   refine tu 11 61 ?_
   simp only [lz]
   refine tu 12 62 ?_
   simp only [lz]
   refine tu 13 63 ?_
   simp only [lz]
   refine tu 14 64 ?_
   simp only [lz]
   refine tu 15 65 ?_
   simp only [lz]
   refine tu 16 66 ?_
   simp only [lz]
   refine tu 17 67 ?_
   simp only [lz]
   refine tu 18 68 ?_
   simp only [lz]
   refine tu 19 69 ?_
   simp only [lz]
   refine tu 20 70 ?_
   simp only [lz]
   refine tk 21 71 ?_
   simp only [lz]
   refine tk 22 8 ?_
   simp only [lz]
   refine wpAnyH_done (by kernel_rfl) ?_ _
   clear hHeld c4 x0 x1 x2 x3 x4 x5 x6 x7 x8 hb
   go_wp2
   go_ret
   rw [HAF.out]
   exact ⟨rfl, by
    obtain ⟨S9, h1, h2, h3⟩ := HP5.out
    exact ⟨S9, h1.below (below_drew _), h2.drew, h3⟩⟩
end
structure SlcOf (ro : Option Addr) (zs : List Int) (rc : Nat) (ao : Option Addr) (ys : List Int) (n c : Nat) : Prop where
 ints : ∀ w : World, IntsAt .u8 w ro zs → IntsAt .u8 w ao ys
 len : ys.length = n
 cap : n ≤ c
 cm : c ≤ rc
 blk : ∀ a, ao = some a → ∃ b, ro = some b ∧ b.block = a.block
def slcA (ro : Option Addr) (lo rc : Nat) : Option Addr := if rc = lo then ro else ro.map (·.add lo)
theorem slc_of (ro : Option Addr) (zs : List Int) (q rc lo hi : Nat) (hq : zs.length = q) (h1 : lo ≤ hi) (h2 : hi ≤ q) (h3 : q ≤ rc) : SlcOf ro zs rc (slcA ro lo rc) ((zs.drop lo).take (hi - lo)) (hi - lo) (rc - lo) := by
 refine ⟨fun w h => ?_, by rw [List.length_take, List.length_drop, hq]; omega, by omega, by omega, fun a ha => ?_⟩
 · unfold slcA
   by_cases hc : rc = lo
   · rw [show hi - lo = 0 by omega, List.take_zero]; exact Or.inl rfl
   · rw [if_neg hc]
     rcases h with h0 | ⟨b, off, rfl, hcl⟩
     · rw [h0]; simp; exact Or.inl rfl
     · have h := (IntsAt.drop (Or.inr ⟨b, off, rfl, hcl⟩ : IntsAt .u8 w (some ⟨b, off, none⟩) zs) lo).take (hi - lo)
       rw [Option.map_some, addr_add]
       exact h
 · unfold slcA at ha
   by_cases hc : rc = lo
   · rw [if_pos hc] at ha; exact ⟨a, ha, rfl⟩
   · rw [if_neg hc] at ha
     cases ro with
     | none => cases ha
     | some b =>
       rw [Option.map_some] at ha
       cases ha
       exact ⟨b, rfl, by unfold Addr.add; split <;> rfl⟩
theorem slc_drop (ro : Option Addr) (zs : List Int) (q rc lo : Nat) (hq : zs.length = q) (h2 : lo ≤ q) (h3 : q ≤ rc) : SlcOf ro zs rc (slcA ro lo rc) (zs.drop lo) (q - lo) (rc - lo) := by
 have h := slc_of ro zs q rc lo q hq h2 (Nat.le_refl _) h3
 rwa [List.take_of_length_le (by rw [List.length_drop, hq]; exact Nat.le_refl _)] at h
theorem slice_l (ro : Option Addr) (q rc lo : Nat) (h1 : lo ≤ q) (w : World) :
 (Instr.slice 62 (.slice ro q rc) (some (.int .i64 (lo : Int))) none none).run Tryz.prog w = .ok (.slice (slcA ro lo rc) (q - lo) (rc - lo)) w := by
 have hu := Tryz.underlying62
 unfold slcA
 simp [go_sem, hu, h1]
theorem slice_h (ro : Option Addr) (q rc hi : Nat) (h2 : hi ≤ rc) (w : World) :
 (Instr.slice 62 (.slice ro q rc) none (some (.int .i64 (hi : Int))) none).run Tryz.prog w = .ok (.slice ro hi rc) w := by
 have hu := Tryz.underlying62
 cases ro with
 | none => simp [go_sem, hu, h2]
 | some a => simp [go_sem, hu, h2, Addr.add]
def DC (w0 w : World) (p : Nat) (zs : List Int) (e : Int) : Prop := ∃ g, DecAt 150 w p g zs e ∧ w0.heap.size ≤ p ∧ w0.heap.size ≤ g ∧ Below w0.heap.size w0 w
theorem DC.bel {w0 w : World} {p : Nat} {zs : List Int} {e : Int} (h : DC w0 w p zs e) : Below w0.heap.size w0 w := by obtain ⟨_, _, _, _, h⟩ := h; exact h
theorem DC.below {w0 w w' : World} {p : Nat} {zs : List Int} {e : Int} (h : DC w0 w p zs e) (hb : Below w.heap.size w w') : DC w0 w' p zs e := by
 obtain ⟨g, h1, h2, h3, h4⟩ := h
 exact ⟨g, h1.keep (Keeps.of_below (S := fun _ => False) hb) (fun f => f) (Or.inr (fun f => f)), h2, h3, below_step h4 hb⟩
theorem DC.num {w0 w : World} {p : Nat} {zs : List Int} {e : Int} (h : DC w0 w p zs e) (z : Int) :
 Calls Tryz.prog 40 #[.pointer (some ⟨p, 0, none⟩), .int .i64 z] w fun en w' => en = .returned (.int .i64 (decNum zs e z).1) ∧ DC w0 w' p (decNum zs e z).2.1 (decNum zs e z).2.2 := by
 obtain ⟨g, h1, h2, h3, h4⟩ := h
 refine (dec_num p g zs e z w h1).mono ?_
 rintro en w' ⟨rfl, k1, k2⟩
 exact ⟨rfl, g, k1, h2, h3, h4.trans (k2.below h4.size (fun k hk => by rw [hk]; exact h2))⟩
theorem DC.end_ {w0 w : World} {p : Nat} {zs : List Int} {e : Int} (h : DC w0 w p zs e) :
 Calls Tryz.prog 42 #[.pointer (some ⟨p, 0, none⟩)] w fun en w' => en = .returned (.int .i64 (decEnd zs e)) ∧ w = w' := by
 obtain ⟨g, h1, _⟩ := h
 exact dec_end p g zs e w h1
theorem DC.make (ao : Option Addr) (zs : List Int) (n cap : Nat) (w : World) (hn : zs.length = n) (h : IntsAt .u8 w ao zs) (hB : InB zs) (hl : n ≤ 140737488355328) :
 Calls Tryz.prog 39 #[.slice ao n cap] w fun en w' => ∃ p, en = .returned (.pointer (some ⟨p, 0, none⟩)) ∧ DC w w' p zs 0 := by
 refine (newDec ao zs n cap w hn h hB hl).mono ?_
 rintro en w' ⟨p, g, rfl, h1, h2, h3, h4⟩
 exact ⟨p, rfl, g, h1, h3, h4, h2⟩
structure BY (w0 : World) (tb : Nat) (ro : Option Addr) (rl rc : Nat) (rs : List Int) : Prop where
 at_ : ∀ w', Keeps (fun i => i = tb) w0 w' → IntsAt .u8 w' ro rs
 len : rs.length = rl
 cap : rl ≤ rc ∧ rc ≤ maxLen
 inb : InB rs
 few : rl ≤ 1000000
theorem BY.drop {w0 : World} {tb : Nat} {ro : Option Addr} {rl rc : Nat} {rs : List Int} (h : BY w0 tb ro rl rc rs) (k : Nat) (hk : k ≤ rl) : BY w0 tb (slcA ro k rc) (rl - k) (rc - k) (rs.drop k) := by
 have hs := slc_drop ro rs rl rc k h.len hk h.cap.1
 exact ⟨fun w' hw => hs.ints w' (h.at_ w' hw), hs.len, ⟨hs.cap, Nat.le_trans hs.cm h.cap.2⟩, inB_drop h.inb k, Nat.le_trans (Nat.sub_le _ _) h.few⟩
theorem BY.take {w0 : World} {tb : Nat} {ro : Option Addr} {rl rc : Nat} {rs : List Int} (h : BY w0 tb ro rl rc rs) (k : Nat) (hk : k ≤ rl) (w' : World) (hw : Keeps (fun i => i = tb) w0 w') : IntsAt .u8 w' ro (rs.take k) ∧ (rs.take k).length = k ∧ InB (rs.take k) :=
 ⟨(h.at_ w' hw).take k, by rw [List.length_take, h.len]; omega, inB_take h.inb k⟩
theorem decE_le (zs : List Int) : (decE zs).2.1 ≤ zs.length := by
 unfold decE
 split
 · show zs.length - _ ≤ zs.length; omega
 · exact Nat.zero_le _
theorem decE_err (zs : List Int) : (decE zs).2.2 = 0 ∨ (decE zs).2.2 = 2 := by
 unfold decE
 split
 · exact Or.inl rfl
 · exact Or.inr rfl
theorem decE_size (zs : List Int) : (decE zs).1.h.size + (decE zs).1.s.size ≤ 1000000000 := by
 unfold decE
 split
 · have := evIn_size true (zs, false); dsimp only; omega
 · exact Nat.zero_le _
theorem decNum_pos (zs : List Int) (e z : Int) (h : InB zs) : 0 ≤ (decNum zs e z).1 ∧ InB (decNum zs e z).2.1 := by
 unfold decNum
 split
 · split
   · refine ⟨?_, inB_drop h _⟩
     show 0 ≤ (numF zs z).1
     unfold numF
     split
     · split
       · exact Int.le_refl _
       · split
         · exact Int.le_refl _
         · exact (valB_in _ (inB_take h _)).1
     · exact Int.le_refl _
   · exact ⟨Int.le_refl _, h⟩
 · exact ⟨Int.le_refl _, h⟩
theorem hd10_pos (zs : List Int) (h : InB zs) : 0 ≤ (hd10 zs).2 := by
 unfold hd10
 exact (decNum_pos _ _ _ (decNum_pos _ _ _ (inB_take h 10)).2).1
theorem numF_MA (zs : List Int) (z : Int) : (numF zs z).1 ≤ 4611686018427387904 := by
 unfold numF
 split
 · split
   · decide
   · split
     · decide
     · rename_i h1; have h2 : ¬ MA < valB (zs.take z.toNat) := h1; show valB _ ≤ _; unfold MA at h2; omega
 · decide
theorem decNum_max (zs : List Int) (e z : Int) : (decNum zs e z).1 ≤ 4611686018427387904 := by
 unfold decNum
 split
 · split
   · exact numF_MA zs z
   · show (0 : Int) ≤ _; decide
 · show (0 : Int) ≤ _; decide
def LoadPost (W w : World) (n m : Nat) (E : Int) (s0 : LS) (T : Nat → Int) (tb : Nat) (zs : List Int) (e : Ending) (w' : World) : Prop :=
 ((∃ s S A B q, loadC n m E s0 zs = some s ∧ e = .returned (.tuple #[.pointer (some ⟨A, 0, none⟩), .int .i64 0]) ∧ LD S W w' n m E s T A B tb q ∧ LOk n s ∧ ∀ i, S i → i = tb ∨ w.heap.size ≤ i) ∨ (loadC n m E s0 zs = none ∧ e = .returned (.tuple #[.pointer none, .int .i64 2]))) ∧ TabOk w' tb ∧ Keeps (fun i => i = tb) w w'
theorem load_fail {W w w' : World} {n m : Nat} {E : Int} {s0 : LS} {T : Nat → Int} {tb : Nat} {zs : List Int} {S : Nat → Prop} {s : LS} {A B q : Nat} (h : loadC n m E s0 zs = none) (hd : LD S W w' n m E s T A B tb q) (hk : Keeps (fun i => i = tb) w w') : LoadPost W w n m E s0 T tb zs (.returned (.tuple #[.pointer none, .int .i64 2])) w' :=
 ⟨Or.inr ⟨h, rfl⟩, hd.tab, hk⟩
set_option maxRecDepth 100000 in
set_option maxHeartbeats 4000000 in
theorem ledger_load (W : World) (tb : Nat) (ao : Option Addr) (bs : List ISl) (n cap m : Nat) (E : Int) (zo : Option Addr) (zs : List Int) (zn zc : Nat) (w : World) (hW : Below W.heap.size W w) (ht : TabOk w tb) (htW : W.heap.size ≤ tb) (hn : bs.length = n) (h : IntsList w ao bs) (hc : confOK bs E = true) (hm2 : (bs.getD 0 default).zs.length = m) (hz : BY w tb zo zn zc zs) :
 Calls Tryz.prog 21 #[.pointer (some ⟨tb, 0, none⟩), .agg #[.slice ao n cap, .int .i64 E], .slice zo zn zc] w (LoadPost W w n m E ⟨balOf bs, [], 0, []⟩ (fun j => tot (balOf bs) j n) tb zs) := by
 obtain ⟨w1, hw1⟩ : ∃ w1, w1 = w.alloc (.cells #[.slice ao n cap, .int .i64 E] 24) := ⟨_, rfl⟩
 have hb1 : Below w.heap.size w w1 := by rw [hw1]; exact (Below.refl _ _).alloc (Nat.le_refl _) _
 have HX1 : Hid (w1.heap[w.heap.size]? = some (.cells #[.slice ao n cap, .int .i64 E] 24 (0, 0))) := Lib.hid (by rw [hw1]; exact heap_alloc_new _ _)
 have HB1 := Lib.hid hb1
 have HW1 := Lib.hid hw1
 have HTL : Hid (tb < w.heap.size) := Lib.hid ht.lt
 have HNEW := Lib.hid (ledger_yes W tb ao bs n cap m E w1 (below_step hW hb1) (ht.below hb1) htW hn (h.below hb1) hc hm2)
 obtain ⟨T, hT⟩ : ∃ T : Nat → Int, T = fun j => tot (balOf bs) j n := ⟨_, rfl⟩
 obtain ⟨s0, hs0⟩ : ∃ s0 : LS, s0 = ⟨balOf bs, [], 0, []⟩ := ⟨_, rfl⟩
 rw [← hT, ← hs0] at HNEW ⊢
 have HS0 : Hid (s0.es = []) := Lib.hid (by rw [hs0])
 have HZ := Lib.hid hz
 have HWW := Lib.hid hW.size
 have q0 := blk_cell HX1.out 0
 have q1 := blk_cell HX1.out 1
 simp only [lq] at q0 q1
 clear hw1 hb1 ht htW hn h hc hm2 hT hs0 hz hW
 go_enter Tryz.func21, Tryz.ntmps21
 go_upto_region 1 with fail
 rw [← HW1.out]
 go_wp2_with fail
 refine HNEW.out.mono ?_
 rintro e w2 ⟨S0, A, B, q, rfl, hd2, hb2, hS0⟩
 have HD2 := Lib.hid hd2
 have HK2 : Hid (Keeps (fun i => i = tb) w w2) := Lib.hid (Keeps.of_below (below_step HB1.out hb2))
 have HN2 : Hid (∀ i, S0 i → i = tb ∨ w.heap.size ≤ i) := Lib.hid (fun i hi => by
  rcases hS0 i hi with e | e
  · exact Or.inl e
  · exact Or.inr (Nat.le_trans HB1.out.size e))
 clear hd2 hb2 hS0 q0 q1 HNEW HX1 HW1
 have hz6 : (zn : Int) ≤ 1000000 := by have := HZ.out.few; omega
 have hz0 : (0 : Int) ≤ (zn : Int) := by omega
 by_cases h10 : zn < 10
 · have i10 : (zn : Int) < 10 := by omega
   have HF : Hid (loadC n m E s0 zs = none) := Lib.hid (by unfold loadC; rw [if_pos (by rw [HZ.out.len]; exact h10)])
   clear h10
   go_wp2
   go_ret2
   exact load_fail HF.out HD2.out HK2.out
 have i10 : ¬ (zn : Int) < 10 := by omega
 have HZT := Lib.hid (HZ.out.take 10 (by omega) w2 HK2.out)
 have HZD := Lib.hid (HZ.out.drop 10 (by omega))
 have hs1 := fun w => slice_h zo zn zc 10 (by have := HZ.out.cap; omega) w
 have hs2 := fun w => slice_l zo zn zc 10 (by omega) w
 have HLC : Hid (loadC n m E s0 zs = (goC n m E (hd10 zs).2.toNat (zs.drop 10) s0).bind (endC n m E zs (hd10 zs).1)) := Lib.hid (by unfold loadC; rw [if_neg (by rw [HZ.out.len]; exact h10)])
 have HNP := Lib.hid (hd10_pos zs HZ.out.inb)
 have HNM : Hid ((hd10 zs).2 ≤ 4611686018427387904) := Lib.hid (by unfold hd10; exact decNum_max _ _ _)
 have HHD : Hid (hd10 zs = ((decNum (zs.take 10) 0 8).1, (decNum (decNum (zs.take 10) 0 8).2.1 (decNum (zs.take 10) 0 8).2.2 2).1)) := Lib.hid rfl
 generalize zs.take 10 = z10 at *
 clear h10
 simp only [Int.cast_ofNat_Int] at hs1 hs2
 go_wp2_with fail
 refine (DC.make zo z10 10 zc w2 HZT.out.2.1 HZT.out.1 HZT.out.2.2 (by omega)).mono ?_
 rintro e w3 ⟨P, rfl, hdc⟩
 have HDC3 := Lib.hid hdc
 clear hdc
 go_wp2_with fail
 refine (HDC3.out.num 8).mono ?_
 rintro e w4 ⟨rfl, hdc⟩
 have HDC4 := Lib.hid hdc
 clear hdc
 generalize decNum z10 0 8 = d1 at *
 obtain ⟨ck, l1, e1⟩ := d1
 dsimp only at HDC4 HHD ⊢
 go_wp2_with fail
 refine (HDC4.out.num 2).mono ?_
 rintro e w5 ⟨rfl, hdc⟩
 have HB5 := Lib.hid hdc.bel
 clear hdc
 generalize decNum l1 e1 2 = d2 at *
 obtain ⟨nn, l2, e2⟩ := d2
 dsimp only at HHD ⊢
 rw [HHD.out] at HLC HNP HNM
 dsimp only at HLC HNP HNM
 obtain ⟨N0, rfl⟩ := Int.eq_ofNat_of_zero_le HNP.out
 simp only [Int.toNat_natCast] at HLC
 have HD5 := Lib.hid (HD2.out.below HB5.out)
 have HK5 : Hid (Keeps (fun i => i = tb) w w5) := Lib.hid (HK2.out.trans (Keeps.of_below (S := fun i => i = tb) HB5.out) (fun i hi => Or.inl hi))
 have HO0 : Hid (LOk n s0) := Lib.hid (fun d hd => by rw [HS0.out] at hd; simp at hd)
 clear HDC3 HDC4 HZT HNP HHD hs1 hs2 HD2 HK2 HB5
 have HRO0 : Hid (goC n m E N0 (zs.drop 10) s0 = goC n m E N0 (zs.drop 10) s0) := Lib.hid rfl
 obtain ⟨r0, hr0⟩ : ∃ r0, r0 = zs.drop 10 := ⟨_, rfl⟩
 rw [← hr0] at HLC HZD HRO0
 clear hr0
 go_wp2_with fail
 go_loopw [12, 13] (fun rv nv wr => ∃ (k : Nat) (ro : Option Addr) (rl rc : Nat) (rs : List Int) (s : LS) (S : Nat → Prop), k ≤ N0 ∧ nv = .int .i64 (k : Nat) ∧ rv = .slice ro rl rc ∧ BY w tb ro rl rc rs ∧ LD S W wr n m E s T A B tb q ∧ LOk n s ∧ Keeps (fun i => i = tb) w wr ∧ (∀ i, S i → i = tb ∨ w.heap.size ≤ i) ∧ goC n m E N0 r0 s0 = goC n m E k rs s) (fun _ nv _ => (intOf nv).toNat)
 case atStart => exact ⟨N0, _, _, _, r0, s0, S0, Nat.le_refl _, rfl, rfl, HZD.out, HD5.out, HO0.out, HK5.out, HN2.out, rfl⟩
 case round => as_aux_lemma =>
  obtain ⟨k, ro, rl, rc, rs, s, S, hk, rfl, rfl, hby, hd, ho, hkp, hsn, hgo⟩ := hrel
  have HBY := Lib.hid hby
  have HD := Lib.hid hd
  have HO := Lib.hid ho
  have HK := Lib.hid hkp
  have HSN := Lib.hid hsn
  have HGO := Lib.hid hgo
  have HKN := Lib.hid hk
  clear hby hd ho hkp hsn hgo hk HD5 HO0 HK5 HN2 HZD
  have hr6 : (rl : Int) ≤ 1000000 := by have := HBY.out.few; omega
  have hr0 : (0 : Int) ≤ (rl : Int) := by omega
  cases k
  case succ k =>
   have k1 : (0 : Int) < ((k + 1 : Nat) : Int) := by omega
   have HGS := Lib.hid (HGO.out.trans (goC_succ k rs s))
   have HKM : Hid (k < k + 1 ∧ k ≤ N0) := Lib.hid (by have := HKN.out; omega)
   by_cases h9 : rl < 9
   · have i9 : (rl : Int) < 9 := by omega
     have HF : Hid (loadC n m E s0 zs = none) := Lib.hid (by
      have hp : parse1 rs = none := by unfold parse1; rw [if_pos (by rw [HBY.out.len]; exact h9)]
      rw [HLC.out, HGS.out, hp]; rfl)
     clear h9
     go_wp2
     go_ret2
     exact load_fail HF.out HD.out HK.out
   have i9 : ¬ (rl : Int) < 9 := by omega
   have HPA : Hid (parse1 rs = if decEnd (decNum (decNum (rs.take 9) 0 1).2.1 (decNum (rs.take 9) 0 1).2.2 8).2.1 (decNum (decNum (rs.take 9) 0 1).2.1 (decNum (rs.take 9) 0 1).2.2 8).2.2 = 0 ∧ (decE (rs.drop 9)).2.2 = 0 then some (⟨(decNum (rs.take 9) 0 1).1, (decNum (decNum (rs.take 9) 0 1).2.1 (decNum (rs.take 9) 0 1).2.2 8).1, (decE (rs.drop 9)).1⟩, 9 + (decE (rs.drop 9)).2.1) else none) := Lib.hid (by unfold parse1; rw [if_neg (by rw [HBY.out.len]; exact h9)])
   have HBT := Lib.hid (HBY.out.take 9 (by omega) wr HK.out)
   have HBD := Lib.hid (HBY.out.drop 9 (by omega))
   have HEL := Lib.hid (decE_le (rs.drop 9))
   have HEE := Lib.hid (decE_err (rs.drop 9))
   have HES := Lib.hid (decE_size (rs.drop 9))
   have hs1 := fun w => slice_h ro rl rc 9 (by have := HBY.out.cap; omega) w
   have hs2 := fun w => slice_l ro rl rc 9 (by omega) w
   simp only [Int.cast_ofNat_Int] at hs1 hs2
   have HR9 : Hid (9 ≤ rl ∧ (rs.drop 9).length = rl - 9) := Lib.hid ⟨by omega, HBD.out.len⟩
   generalize rs.take 9 = z9 at *
   clear h9 i10
   go_wp2_with fail
   refine (DC.make ro z9 9 rc wr HBT.out.2.1 HBT.out.1 HBT.out.2.2 (by omega)).mono ?_
   rintro e w6 ⟨P2, rfl, hdc⟩
   have HDC6 := Lib.hid hdc
   clear hdc
   go_wp2_with fail
   refine (HDC6.out.num 1).mono ?_
   rintro e w7 ⟨rfl, hdc⟩
   have HDC7 := Lib.hid hdc
   clear hdc
   generalize decNum z9 0 1 = g1 at *
   obtain ⟨pp, l3, e3⟩ := g1
   dsimp only at HDC7 HPA ⊢
   go_wp2_with fail
   refine (HDC7.out.num 8).mono ?_
   rintro e w8 ⟨rfl, hdc⟩
   have HDC8 := Lib.hid hdc
   clear hdc
   generalize decNum l3 e3 8 = g2 at *
   obtain ⟨cc, l4, e4⟩ := g2
   dsimp only at HDC8 HPA ⊢
   have HK8 : Hid (Keeps (fun i => i = tb) w w8) := Lib.hid (HK.out.trans (Keeps.of_below (S := fun i => i = tb) HDC8.out.bel) (fun i hi => Or.inl hi))
   have HDE := Lib.hid (decodeEvent (slcA ro 9 rc) (rs.drop 9) (rl - 9) (rc - 9) w8 HBD.out.len (HBD.out.at_ w8 HK8.out) HBD.out.inb HBD.out.cap.1 HBD.out.cap.2 HBD.out.few)
   generalize decE (rs.drop 9) = y at *
   obtain ⟨x, z, er⟩ := y
   dsimp only at HPA HEL HEE HES HDE
   unfold EV.cells at HDE
   go_wp2_with fail
   refine HDE.out.mono ?_
   rintro e w9 ⟨rfl, hb9⟩
   obtain ⟨wa, hwa⟩ : ∃ wa, wa = w9.alloc (.cells x.cells 55) := ⟨_, rfl⟩
   obtain ⟨V, hV⟩ : ∃ V, V = w9.heap.size := ⟨_, rfl⟩
   have hba : Below w9.heap.size w9 wa := by rw [hwa]; exact (Below.refl _ _).alloc (Nat.le_refl _) _
   have HVa : Hid (EvB wa V x) := Lib.hid (by rw [hwa, hV]; exact heap_alloc_new _ _)
   have HDCa := Lib.hid ((HDC8.out.below hb9).below hba)
   have HBa := Lib.hid HDCa.out.bel
   have HDa := Lib.hid (HD.out.below HBa.out)
   have HKa : Hid (Keeps (fun i => i = tb) w wa) := Lib.hid (HK.out.trans (Keeps.of_below (S := fun i => i = tb) HBa.out) (fun i hi => Or.inl hi))
   have HWA := Lib.hid hwa
   have HVV := Lib.hid hV
   unfold EV.cells at HWA
   clear hb9 hwa hV hba HDE HDC6 HDC7 HDC8 HK8 HBT hs1 hs2
   go_upto_region 17 with fail
   rw [← HWA.out, ← HVV.out]
   clear HWA HVV
   have HFN : Hid (parse1 rs = none → loadC n m E s0 zs = none) := Lib.hid (fun hp => by rw [HLC.out, HGS.out, hp]; rfl)
   go_wp2_with fail
   refine HDCa.out.end_.mono ?_
   rintro e wx ⟨rfl, rfl⟩
   rename World => wa
   generalize decEnd l4 e4 = de at *
   obtain ⟨x0, x1, x2, x3, x4, x5, x6, x7, x8⟩ := HVa.out.all
   by_cases hde : de = 0 ∧ er = 0
   · obtain ⟨rfl, rfl⟩ := hde
     have HPS : Hid (parse1 rs = some (⟨pp, cc, x⟩, 9 + z)) := Lib.hid (by rw [HPA.out, if_pos ⟨rfl, rfl⟩])
     have HAG := Lib.hid (ledger_again HDa.out ⟨pp, cc, x⟩ HES.out)
     have HIF := Lib.hid (againB_iff (n := n) (m := m) (E := E) s ⟨pp, cc, x⟩)
     have HGA : Hid (goC n m E N0 r0 s0 = if againB n m E s ⟨pp, cc, x⟩ = true then goC n m E k (rs.drop (9 + z)) (applyF n m E s pp cc [rqOf x]) else none) := Lib.hid (by rw [HGS.out, HPS.out]; rfl)
     have HO2 := Lib.hid (HO.out.app HD.out.inv pp cc [rqOf x])
     dsimp only at HAG HIF
     generalize againB n m E s ⟨pp, cc, x⟩ = ag at *
     generalize applyF n m E s pp cc [rqOf x] = s2 at *
     unfold EV.cells at HAG
     clear HPA HES HEE
     go_wp2_with fail
     refine HAG.out.mono ?_
     rintro e wb ⟨rfl, Sb, hdb, hkb, hnb⟩
     have HKb : Hid (Keeps (fun i => i = tb) w wb) := Lib.hid (HKa.out.trans hkb (fun i hi => by
      rcases HSN.out i hi with e | e
      · exact Or.inl e
      · exact Or.inr e))
     have HNb : Hid (∀ i, Sb i → i = tb ∨ w.heap.size ≤ i) := Lib.hid (fun i hi => by
      rcases hnb i hi with e | e
      · exact HSN.out i e
      · exact Or.inr (Nat.le_trans HKa.out.size e))
     have HDb := Lib.hid hdb
     clear hdb hkb hnb x0 x1 x2 x3 x4 x5 x6 x7 x8
     cases ag
     · have HF : Hid (loadC n m E s0 zs = none) := Lib.hid (by rw [HLC.out, HGA.out, if_neg (by decide)]; rfl)
       go_wp2
       go_ret2
       exact load_fail HF.out HDb.out HKb.out
     · have hcc : s.ck ≤ cc := (HIF.out.1 rfl).1
       rw [if_pos hcc] at HDb
       have HGB : Hid (goC n m E N0 r0 s0 = goC n m E k (rs.drop (9 + z)) s2) := Lib.hid (by rw [HGA.out, if_pos rfl])
       have hz9 : 9 + z ≤ rl := by have := HEL.out; have := HR9.out; omega
       have HBN := Lib.hid (HBY.out.drop (9 + z) hz9)
       have hs3 := fun w => slice_l ro rl rc (9 + z) hz9 w
       have hcast : (((9 + z : Nat)) : Int) = 9 + (z : Int) := by omega
       rw [hcast] at hs3
       have hw9 : IntKind.i64.wrap (9 + (z : Int)) = 9 + (z : Int) := by simp only [IntKind.wrap_i64]; omega
       have hz0 : (0 : Int) ≤ 9 + (z : Int) := by omega
       have hn1 : ((k + 1 : Nat) : Int) - 1 = (k : Int) := by omega
       have hkk : (k : Int) ≤ 4611686018427387904 := by have := HNM.out; have := HKM.out.2; omega
       clear hcc hcast hz9
       go_wp2
       go_roundw
       case rel => exact ⟨k, _, _, _, rs.drop (9 + z), s2, Sb, HKM.out.2, by go_num, rfl, HBN.out, HDb.out, HO2.out, HKb.out, HNb.out, HGB.out⟩
       case measure => simp [intOf]
   · have HF : Hid (loadC n m E s0 zs = none) := Lib.hid (HFN.out (by rw [HPA.out, if_neg hde]))
     by_cases hd0 : de = 0
     · subst hd0
       have he0 : (er != 0) = true := by simp; exact fun e => hde ⟨rfl, e⟩
       clear hde
       go_wp2
       go_ret2
       exact load_fail HF.out HDa.out HKa.out
     · have hd1 : (de != 0) = true := by simp; exact hd0
       clear hde hd0
       go_wp2
       go_ret2
       exact load_fail HF.out HDa.out HKa.out
  case zero =>
   have HLE : Hid (loadC n m E s0 zs = if saveB (tickF s ck) = zs then some (tickF s ck) else none) := Lib.hid (by rw [HLC.out, HGO.out]; rfl)
   have HAP := Lib.hid (ledger_apply HD.out 0 ck 0 none [] 0 0 rfl (Nat.le_refl _) (Nat.zero_le _) (fun _ _ => Or.inl rfl) (fun r h => by cases h))
   have HO1 := Lib.hid (HO.out.app HD.out.inv 0 ck [])
   rw [app_nil] at HAP HO1
   generalize tickF s ck = s1 at *
   have k1 : ¬ (0 : Int) < ((0 : Nat) : Int) := by omega
   go_wp2_with fail
   refine HAP.out.mono ?_
   rintro e w6 ⟨ra, rc1, ea, ec, rfl, _, _, _, _, S6, hd6, hk6, hn6, _, _⟩
   have HD6 := Lib.hid hd6
   have HK6 : Hid (Keeps (fun i => i = tb) w w6) := Lib.hid (HK.out.trans hk6 (fun i hi => by
    rcases HSN.out i hi with e | e
    · exact Or.inl e
    · exact Or.inr e))
   have HN6 : Hid (∀ i, S6 i → i = tb ∨ w.heap.size ≤ i) := Lib.hid (fun i hi => by
    rcases hn6 i hi with e | e
    · exact HSN.out i e
    · exact Or.inr (Nat.le_trans HK.out.size e))
   clear hd6 hk6 hn6 HAP
   obtain ⟨_, _, hda, hia, _⟩ := HD6.out.dat
   have HSV := Lib.hid (ledger_save hda hia HO1.out)
   clear hda hia
   go_wp2_with fail
   refine HSV.out.mono ?_
   rintro e w7 ⟨so, sc, rfl, hsi, hb7, _, _, _⟩
   obtain ⟨L, hL⟩ : ∃ L, L = (saveB s1).length := ⟨_, rfl⟩
   dsimp only at hsi ⊢
   rw [← hL]
   have HD7 := Lib.hid (HD6.out.below hb7)
   have HK7 : Hid (Keeps (fun i => i = tb) w w7) := Lib.hid (HK6.out.trans (Keeps.of_below (S := fun i => i = tb) hb7) (fun i hi => Or.inl hi))
   have HEQ := Lib.hid (bytes_equal so zo (saveB s1) zs L zn sc zc w7 hL.symm HZ.out.len hsi (HZ.out.at_ w7 HK7.out) (saveB_in s1) HZ.out.inb)
   clear hsi hb7 hL HSV
   go_wp2_with fail
   refine HEQ.out.mono ?_
   rintro e wx ⟨rfl, rfl⟩
   by_cases heq : saveB s1 = zs
   · have HF : Hid (loadC n m E s0 zs = some s1) := Lib.hid (by rw [HLE.out, if_pos heq])
     have he : eqB (saveB s1) zs = true := by rw [heq]; exact eqB_self zs
     rw [he]
     clear he heq
     go_wp2
     go_ret2
     exact ⟨Or.inl ⟨s1, S6, A, B, q, HF.out, rfl, HD7.out, HO1.out, HN6.out⟩, HD7.out.tab, HK7.out⟩
   · have HF : Hid (loadC n m E s0 zs = none) := Lib.hid (by rw [HLE.out, if_neg heq])
     have he : eqB (saveB s1) zs = false := by unfold eqB; rw [decide_eq_false_iff_not]; exact heq
     rw [he]
     clear he heq
     go_wp2
     go_ret2
     exact load_fail HF.out HD7.out HK7.out
theorem rdec_at {w w1 : World} {ao : Option Addr} {zs : List Int} {n cap : Nat} (hb1 : Below w.heap.size w w1) (hlt : w.heap.size < w1.heap.size) (hn : zs.length = n) (h : IntsAt .u8 w ao zs) (hB : InB zs) (hc : n ≤ cap) (hm : cap ≤ maxLen) (hl : n ≤ 140737488355328) :
 ∃ g, DecAt 119 (w1.alloc (.cells #[.slice ao n cap, .int .i64 0] 119)) w1.heap.size g zs 0 ∧ g ≤ w.heap.size := by
 subst hn
 have hb2 : Below w1.heap.size w1 (w1.alloc (.cells #[.slice ao zs.length cap, .int .i64 0] 119)) := (Below.refl _ _).alloc (Nat.le_refl _) _
 have hx : (w1.alloc (.cells #[.slice ao zs.length cap, .int .i64 0] 119)).heap[w1.heap.size]? = some (.cells #[.slice ao zs.length cap, .int .i64 0] 119 (0, 0)) := heap_alloc_new _ _
 have hi := ints_below (ints_below h hb1) hb2
 by_cases h0 : zs = []
 · exact ⟨w.heap.size, ⟨ao, cap, hx, hi, hc, hm, hB, hl, Or.inl h0, by omega⟩, Nat.le_refl _⟩
 · rcases h with h | ⟨b, off, rfl, hcl⟩
   · exact absurd h h0
   · have hbl : b < w.heap.size := by
      obtain ⟨z, zs', rfl⟩ := List.exists_cons_of_ne_nil h0
      exact World.block_lt_of_cell? w _ (hcl 0 (by simp))
     exact ⟨b, ⟨_, cap, hx, hi, hc, hm, hB, hl, Or.inr (fun a ha => by cases ha; rfl), by omega⟩, by omega⟩
structure LW (w wr : World) (S : Nat → Prop) (n m : Nat) (E : Int) (s : LS) (T : Nat → Int) (X B q P g : Nat) (d : DS) : Prop where
 ld : XL S w wr n m E s T X B q
 dec : DecAt 119 wr P g d.1 d.2
 pS : ¬ S P
 gS : ¬ S g
 gl : g < wr.heap.size
 oP : w.heap.size ≤ P
section
variable {w wr w' : World} {S S' : Nat → Prop} {n m : Nat} {E : Int} {s s' : LS} {T : Nat → Int} {X B q P g : Nat} {d d' : DS}
theorem LW.bel (h : LW w wr S n m E s T X B q P g d) : Below w.heap.size w wr := h.ld.bel
theorem LW.read (h : LW w wr S n m E s T X B q P g d) (hp : DecPost 119 wr P g d'.1 d'.2 w') : LW w w' S n m E s T X B q P g d' :=
 ⟨h.ld.keep hp.2 (fun i e => e ▸ h.pS) (fun i e => e ▸ h.oP), hp.1, h.pS, h.gS, Nat.lt_of_lt_of_le h.gl hp.2.size, h.oP⟩
theorem LW.below (h : LW w wr S n m E s T X B q P g d) (hb : Below wr.heap.size wr w') : LW w w' S n m E s T X B q P g d :=
 ⟨h.ld.below hb, h.dec.keep (Keeps.of_below (S := fun _ => False) hb) (fun f => f) (Or.inr (fun f => f)), h.pS, h.gS, Nat.lt_of_lt_of_le h.gl hb.size, h.oP⟩
theorem LW.turn (h : LW w wr S n m E s T X B q P g d) (hd : XL S' w w' n m E s' T X B q) (hk : Keeps S wr w') (hn : ∀ i, S' i → S i ∨ wr.heap.size ≤ i) : LW w w' S' n m E s' T X B q P g d :=
 ⟨hd, h.dec.keep hk h.pS (Or.inr h.gS), fun hh => by
   rcases hn P hh with e | e
   · exact h.pS e
   · have := h.dec.lt; omega, fun hh => by
   rcases hn g hh with e | e
   · exact h.gS e
   · have := h.gl; omega, Nat.lt_of_lt_of_le h.gl hk.size, h.oP⟩
theorem LW.num (h : LW w wr S n m E s T X B q P g d) (z : Nat) : Calls Tryz.prog 45 #[.pointer (some ⟨P, 0, none⟩), .int .i64 z] wr fun e w' => e = .returned (.int .i64 (dN z d).1) ∧ LW w w' S n m E s T X B q P g (dN z d).2 := by
 refine (refdec_num P g d.1 d.2 z wr h.dec).mono ?_
 rintro e w' ⟨rfl, hp⟩
 exact ⟨rfl, h.read (d' := (dN z d).2) hp⟩
theorem LW.event (h : LW w wr S n m E s T X B q P g d) : Calls Tryz.prog 46 #[.pointer (some ⟨P, 0, none⟩)] wr fun e w' => e = .returned (.agg (evxGet d).1.cells) ∧ LW w w' S n m E s T X B q P g (evxGet d).2 := by
 refine (getEvent P g d wr h.dec h.gl).mono ?_
 rintro e w' ⟨rfl, hp⟩
 exact ⟨rfl, h.read (d' := (evxGet d).2) hp⟩
theorem LW.end_ (h : LW w wr S n m E s T X B q P g d) : Calls Tryz.prog 49 #[.pointer (some ⟨P, 0, none⟩)] wr fun e w' => e = .returned (.int .i64 (decEnd d.1 d.2)) ∧ wr = w' := refdec_end P g d.1 d.2 wr h.dec
theorem LW.err (h : LW w wr S n m E s T X B q P g d) : wr.cell? ⟨P, 1, none⟩ = some (.int .i64 d.2) := by
 obtain ⟨_, _, h1, _⟩ := h.dec
 exact blk_cell h1 1
theorem LW.ck (h : LW w wr S n m E s T X B q P g d) : wr.cell? ⟨X, 3, none⟩ = some (.int .i64 s.ck) := by
 obtain ⟨_, _, _, _, _, hx, _⟩ := h.ld
 exact hx.cells.2.2.2.1
end
def XLoadPost (w : World) (n m : Nat) (E : Int) (s0 : LS) (T : Nat → Int) (zs : List Int) (e : Ending) (w' : World) : Prop :=
 ((∃ s S X B q, Loads n m E T s0 zs s ∧ e = .returned (.tuple #[.pointer (some ⟨X, 0, none⟩), .int .i64 0]) ∧ XL S w w' n m E s T X B q) ∨ ((∀ s, ¬ Loads n m E T s0 zs s) ∧ e = .returned (.tuple #[.pointer none, .int .i64 2]))) ∧ Below w.heap.size w w'
def XLoadLaw : Prop := ∀ (ao : Option Addr) (bs : List ISl) (n cap m : Nat) (E : Int) (zo : Option Addr) (zs : List Int) (zn zc : Nat) (w : World), bs.length = n → IntsList w ao bs → confOK bs E = true → (bs.getD 0 default).zs.length = m → IntsAt .u8 w zo zs → zs.length = zn → InB zs → zn ≤ zc → zc ≤ maxLen → zn ≤ 1000000 →
 Calls Tryz.prog 22 #[.agg #[.slice ao n cap, .int .i64 E], .slice zo zn zc] w (XLoadPost w n m E ⟨balOf bs, [], 0, []⟩ (fun j => tot (balOf bs) j n) zs)
set_option maxRecDepth 100000 in
set_option maxHeartbeats 2000000 in
theorem ledger_load_no (tb : Nat) (ao : Option Addr) (bs : List ISl) (n cap : Nat) (E : Int) (zo : Option Addr) (zn zc : Nat) (w : World) (hn : bs.length = n) (h : IntsList w ao bs) (hc : confOK bs E = false) :
 Calls Tryz.prog 21 #[.pointer (some ⟨tb, 0, none⟩), .agg #[.slice ao n cap, .int .i64 E], .slice zo zn zc] w fun e w' => e = .returned (.tuple #[.pointer none, .int .i64 1]) ∧ Below w.heap.size w w' := by
 obtain ⟨w1, hw1⟩ : ∃ w1, w1 = w.alloc (.cells #[.slice ao n cap, .int .i64 E] 24) := ⟨_, rfl⟩
 have hb1 : Below w.heap.size w w1 := by rw [hw1]; exact (Below.refl _ _).alloc (Nat.le_refl _) _
 have HX1 : Hid (w1.heap[w.heap.size]? = some (.cells #[.slice ao n cap, .int .i64 E] 24 (0, 0))) := Lib.hid (by rw [hw1]; exact heap_alloc_new _ _)
 have HB1 := Lib.hid hb1
 have HW1 := Lib.hid hw1
 have HNEW := Lib.hid (ledger_no tb ao bs n cap E w1 hn (h.below hb1) hc)
 have q0 := blk_cell HX1.out 0
 have q1 := blk_cell HX1.out 1
 simp only [lq] at q0 q1
 clear hw1 hb1 hn h hc
 go_enter Tryz.func21, Tryz.ntmps21
 go_upto_region 1 with fail
 rw [← HW1.out]
 go_wp2_with fail
 refine HNEW.out.mono ?_
 rintro e w2 ⟨rfl, hb2⟩
 have HB2 := Lib.hid (below_step HB1.out hb2)
 clear hb2 q0 q1
 go_wp2
 go_ret2
 exact ⟨rfl, HB2.out⟩
set_option maxRecDepth 100000 in
set_option maxHeartbeats 2000000 in
theorem xledger_load_no (ao : Option Addr) (bs : List ISl) (n cap : Nat) (E : Int) (zo : Option Addr) (zn zc : Nat) (w : World) (hn : bs.length = n) (h : IntsList w ao bs) (hc : confOK bs E = false) :
 Calls Tryz.prog 22 #[.agg #[.slice ao n cap, .int .i64 E], .slice zo zn zc] w fun e w' => e = .returned (.tuple #[.pointer none, .int .i64 1]) ∧ Below w.heap.size w w' := by
 obtain ⟨w1, hw1⟩ : ∃ w1, w1 = w.alloc (.cells #[.slice ao n cap, .int .i64 E] 24) := ⟨_, rfl⟩
 have hb1 : Below w.heap.size w w1 := by rw [hw1]; exact (Below.refl _ _).alloc (Nat.le_refl _) _
 have HX1 : Hid (w1.heap[w.heap.size]? = some (.cells #[.slice ao n cap, .int .i64 E] 24 (0, 0))) := Lib.hid (by rw [hw1]; exact heap_alloc_new _ _)
 have HB1 := Lib.hid hb1
 have HW1 := Lib.hid hw1
 have HNEW := Lib.hid (xledger_no ao bs n cap E w1 hn (h.below hb1) hc)
 have q0 := blk_cell HX1.out 0
 have q1 := blk_cell HX1.out 1
 simp only [lq] at q0 q1
 clear hw1 hb1 hn h hc
 go_enter Tryz.func22, Tryz.ntmps22
 go_upto_region 1 with fail
 rw [← HW1.out]
 go_wp2_with fail
 refine HNEW.out.mono ?_
 rintro e w2 ⟨rfl, hb2⟩
 have HB2 := Lib.hid (below_step HB1.out hb2)
 clear hb2 q0 q1
 go_wp2
 go_ret2
 exact ⟨rfl, HB2.out⟩
structure Two (S Sx : Nat → Prop) (W w : World) (n m : Nat) (E : Int) (s sx : LS) (T : Nat → Int) (tb A B q X C p : Nat) : Prop where
 l : LD S W w n m E s T A B tb q
 x : XL Sx W w n m E sx T X C p
 ap : ∀ i, S i → ¬ Sx i
section
variable {S Sx S' : Nat → Prop} {W w w' : World} {n m : Nat} {E : Int} {s sx s' : LS} {T : Nat → Int} {tb A B q X C p A' B' q' : Nat}
theorem Two.bel (h : Two S Sx W w n m E s sx T tb A B q X C p) : Below W.heap.size W w := h.l.bel
theorem Two.below (h : Two S Sx W w n m E s sx T tb A B q X C p) (hb : Below w.heap.size w w') : Two S Sx W w' n m E s sx T tb A B q X C p := ⟨h.l.below hb, h.x.below hb, h.ap⟩
theorem Two.turnl (h : Two S Sx W w n m E s sx T tb A B q X C p) (hd : LD S' W w' n m E s' T A' B' tb q') (hk : Keeps S w w') (hn : ∀ i, S' i → S i ∨ w.heap.size ≤ i) : Two S' Sx W w' n m E s' sx T tb A' B' q' X C p :=
 ⟨hd, h.x.keep hk h.ap h.l.new, fun i a b => by
   rcases hn i a with e | e
   · exact h.ap i e b
   · have := h.x.lt i b; omega⟩
theorem Two.load (h : Two S Sx W w n m E s sx T tb A B q X C p) (hd : LD S' W w' n m E s' T A' B' tb q') (hk : Keeps (fun i => i = tb) w w') (hn : ∀ i, S' i → i = tb ∨ w.heap.size ≤ i) : Two S' Sx W w' n m E s' sx T tb A' B' q' X C p :=
 h.turnl hd (hk.mono (S' := S) (fun i _ e => e ▸ h.l.tbS)) (fun i hi => by
  rcases hn i hi with e | e
  · exact Or.inl (e ▸ h.l.tbS)
  · exact Or.inr e)
theorem Two.turnx (h : Two S Sx W w n m E s sx T tb A B q X C p) (hd : XL S' W w' n m E s' T X C p) (hk : Keeps Sx w w') (hn : ∀ i, S' i → Sx i ∨ w.heap.size ≤ i) : Two S S' W w' n m E s s' T tb A B q X C p :=
 ⟨h.l.keep hk (fun i a b => h.ap i b a) h.x.new, hd, fun i a b => by
   rcases hn i b with e | e
   · exact h.ap i a e
   · have := h.l.lt i a; omega⟩
end
end Go.Proofs.YtkaciaehlibidaaGreat
