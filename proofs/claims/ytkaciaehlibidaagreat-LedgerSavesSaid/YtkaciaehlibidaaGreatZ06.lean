/- Parts of the proof: ShaR2. -/
import Derived.Test.YtkaciaehlibidaaGreatZ05
namespace Go.Proofs.YtkaciaehlibidaaGreat
open Go.RowKit
set_option linter.unusedVariables false
set_option linter.unusedSimpArgs false
theorem or_sum (a b i : Nat) (h : b < 2 ^ i) : (a * 2 ^ i) ||| b = a * 2 ^ i + b := by
 have := Nat.shiftLeft_add_eq_or_of_lt h a
 rw [Nat.shiftLeft_eq] at this
 exact this.symm
theorem orI (a b i P m : Nat) (hP : 2 ^ i = P) (hb : b < P) (hm : a * P + b = m) (hl : m < 4294967296) : bits .or .u32 ((a * P : Nat) : Int) (b : Int) = (m : Int) := by
 rw [u32_or_nat _ _ (by omega) (by omega)]
 subst hP
 rw [or_sum _ _ _ hb, hm]
theorem mod256 (m : Nat) (h : m < 16777216) : (m : Int) * 256 % 4294967296 = ((m * 256 : Nat) : Int) := by omega
set_option maxRecDepth 100000 in
theorem be4_ref (b0 b1 b2 b3 : Int) (h0 : 0 ≤ b0 ∧ b0 ≤ 255) (h1 : 0 ≤ b1 ∧ b1 ≤ 255) (h2 : 0 ≤ b2 ∧ b2 ≤ 255) (h3 : 0 ≤ b3 ∧ b3 ≤ 255) :
 bits .or .u32 (bits .or .u32 (bits .or .u32 (b0 * 16777216 % 4294967296) (b1 * 65536 % 4294967296)) (b2 * 256 % 4294967296)) b3 = be4 [b0, b1, b2, b3] := by
 obtain ⟨n0, rfl⟩ := Int.eq_ofNat_of_zero_le h0.1
 obtain ⟨n1, rfl⟩ := Int.eq_ofNat_of_zero_le h1.1
 obtain ⟨n2, rfl⟩ := Int.eq_ofNat_of_zero_le h2.1
 obtain ⟨n3, rfl⟩ := Int.eq_ofNat_of_zero_le h3.1
 have a1 := orI n0 (n1 * 65536) 24 16777216 (n0 * 16777216 + n1 * 65536) (by kernel_rfl) (by omega) (by omega) (by omega)
 have a2 := orI (n0 * 256 + n1) (n2 * 256) 16 65536 (n0 * 16777216 + n1 * 65536 + n2 * 256) (by kernel_rfl) (by omega) (by omega) (by omega)
 have a3 := orI (n0 * 65536 + n1 * 256 + n2) n3 8 256 (n0 * 16777216 + n1 * 65536 + n2 * 256 + n3) (by kernel_rfl) (by omega) (by omega) (by omega)
 have c0 := orI 0 n0 8 256 n0 (by kernel_rfl) (by omega) (by omega) (by omega)
 have c1 := orI n0 n1 8 256 (n0 * 256 + n1) (by kernel_rfl) (by omega) (by omega) (by omega)
 have c2 := orI (n0 * 256 + n1) n2 8 256 (n0 * 65536 + n1 * 256 + n2) (by kernel_rfl) (by omega) (by omega) (by omega)
 have x1 : (n0 : Int) * 16777216 % 4294967296 = ((n0 * 16777216 : Nat) : Int) := by omega
 have x2 : (n1 : Int) * 65536 % 4294967296 = ((n1 * 65536 : Nat) : Int) := by omega
 have x3 : (n2 : Int) * 256 % 4294967296 = ((n2 * 256 : Nat) : Int) := by omega
 have x4 : ((n0 * 16777216 + n1 * 65536 : Nat) : Int) = (((n0 * 256 + n1) * 65536 : Nat) : Int) := by omega
 have x5 : ((n0 * 16777216 + n1 * 65536 + n2 * 256 : Nat) : Int) = (((n0 * 65536 + n1 * 256 + n2) * 256 : Nat) : Int) := congrArg (fun m : Nat => (m : Int)) (by omega)
 have y0 : (0 : Int) * 256 % 4294967296 = ((0 * 256 : Nat) : Int) := by omega
 have y1 : (n0 : Int) * 256 % 4294967296 = ((n0 * 256 : Nat) : Int) := by omega
 have y2 := mod256 (n0 * 256 + n1) (by omega)
 have y3 := mod256 (n0 * 65536 + n1 * 256 + n2) (by omega)
 have R : be4 [(n0 : Int), n1, n2, n3] = bits .or .u32 (bits .or .u32 (bits .or .u32 (bits .or .u32 ((0 : Int) * 256 % 4294967296) (n0 : Int) * 256 % 4294967296) (n1 : Int) * 256 % 4294967296) (n2 : Int) * 256 % 4294967296) (n3 : Int) := by
  unfold be4
  simp only [List.foldl_cons, List.foldl_nil]
 rw [R, x1, x2, x3, a1, x4, a2, x5, a3, y0, c0, y1, c1, y2, c2, y3, a3]
theorem drop_four (bs : List Int) (k : Nat) (h : 4 * k + 4 ≤ bs.length) : (bs.drop (4 * k)).take 4 = [bs.getD (4 * k) 0, bs.getD (4 * k + 1) 0, bs.getD (4 * k + 2) 0, bs.getD (4 * k + 3) 0] := by
 apply List.ext_getElem?
 intro i
 rw [List.getElem?_take]
 match i with
 | 0 => simp [List.getD, List.getElem?_eq_getElem (show 4 * k < bs.length by omega)]
 | 1 => simp [List.getD, List.getElem?_eq_getElem (show 4 * k + 1 < bs.length by omega)]
 | 2 => simp [List.getD, List.getElem?_eq_getElem (show 4 * k + 2 < bs.length by omega)]
 | 3 => simp [List.getD, List.getElem?_eq_getElem (show 4 * k + 3 < bs.length by omega)]
 | i + 4 => simp; omega
theorem V8.all {w : World} {b : Nat} {T : TypeId} {a0 a1 a2 a3 a4 a5 a6 a7 : Int} (h : V8 w b T a0 a1 a2 a3 a4 a5 a6 a7) (x0 x1 x2 x3 x4 x5 x6 x7 : Int) : V8 ((((((((w.setCell ⟨b, 0, none⟩ (.int .u32 x0)).setCell ⟨b, 1, none⟩ (.int .u32 x1)).setCell ⟨b, 2, none⟩ (.int .u32 x2)).setCell ⟨b, 3, none⟩ (.int .u32 x3)).setCell ⟨b, 4, none⟩ (.int .u32 x4)).setCell ⟨b, 5, none⟩ (.int .u32 x5)).setCell ⟨b, 6, none⟩ (.int .u32 x6)).setCell ⟨b, 7, none⟩ (.int .u32 x7)) b T x0 x1 x2 x3 x4 x5 x6 x7 ∧ Keeps (fun i => i = b) w ((((((((w.setCell ⟨b, 0, none⟩ (.int .u32 x0)).setCell ⟨b, 1, none⟩ (.int .u32 x1)).setCell ⟨b, 2, none⟩ (.int .u32 x2)).setCell ⟨b, 3, none⟩ (.int .u32 x3)).setCell ⟨b, 4, none⟩ (.int .u32 x4)).setCell ⟨b, 5, none⟩ (.int .u32 x5)).setCell ⟨b, 6, none⟩ (.int .u32 x6)).setCell ⟨b, 7, none⟩ (.int .u32 x7)) := by
 have h0 : V8 (w.setCell ⟨b, 0, none⟩ (.int .u32 x0)) b T x0 a1 a2 a3 a4 a5 a6 a7 := by have := blk_set h 0 (.int .u32 x0); simpa [V8] using this
 have h1 : V8 ((w.setCell ⟨b, 0, none⟩ (.int .u32 x0)).setCell ⟨b, 1, none⟩ (.int .u32 x1)) b T x0 x1 a2 a3 a4 a5 a6 a7 := by have := blk_set h0 1 (.int .u32 x1); simpa [V8] using this
 have h2 : V8 (((w.setCell ⟨b, 0, none⟩ (.int .u32 x0)).setCell ⟨b, 1, none⟩ (.int .u32 x1)).setCell ⟨b, 2, none⟩ (.int .u32 x2)) b T x0 x1 x2 a3 a4 a5 a6 a7 := by have := blk_set h1 2 (.int .u32 x2); simpa [V8] using this
 have h3 : V8 ((((w.setCell ⟨b, 0, none⟩ (.int .u32 x0)).setCell ⟨b, 1, none⟩ (.int .u32 x1)).setCell ⟨b, 2, none⟩ (.int .u32 x2)).setCell ⟨b, 3, none⟩ (.int .u32 x3)) b T x0 x1 x2 x3 a4 a5 a6 a7 := by have := blk_set h2 3 (.int .u32 x3); simpa [V8] using this
 have h4 : V8 (((((w.setCell ⟨b, 0, none⟩ (.int .u32 x0)).setCell ⟨b, 1, none⟩ (.int .u32 x1)).setCell ⟨b, 2, none⟩ (.int .u32 x2)).setCell ⟨b, 3, none⟩ (.int .u32 x3)).setCell ⟨b, 4, none⟩ (.int .u32 x4)) b T x0 x1 x2 x3 x4 a5 a6 a7 := by have := blk_set h3 4 (.int .u32 x4); simpa [V8] using this
 have h5 : V8 ((((((w.setCell ⟨b, 0, none⟩ (.int .u32 x0)).setCell ⟨b, 1, none⟩ (.int .u32 x1)).setCell ⟨b, 2, none⟩ (.int .u32 x2)).setCell ⟨b, 3, none⟩ (.int .u32 x3)).setCell ⟨b, 4, none⟩ (.int .u32 x4)).setCell ⟨b, 5, none⟩ (.int .u32 x5)) b T x0 x1 x2 x3 x4 x5 a6 a7 := by have := blk_set h4 5 (.int .u32 x5); simpa [V8] using this
 have h6 : V8 (((((((w.setCell ⟨b, 0, none⟩ (.int .u32 x0)).setCell ⟨b, 1, none⟩ (.int .u32 x1)).setCell ⟨b, 2, none⟩ (.int .u32 x2)).setCell ⟨b, 3, none⟩ (.int .u32 x3)).setCell ⟨b, 4, none⟩ (.int .u32 x4)).setCell ⟨b, 5, none⟩ (.int .u32 x5)).setCell ⟨b, 6, none⟩ (.int .u32 x6)) b T x0 x1 x2 x3 x4 x5 x6 a7 := by have := blk_set h5 6 (.int .u32 x6); simpa [V8] using this
 have h7 : V8 ((((((((w.setCell ⟨b, 0, none⟩ (.int .u32 x0)).setCell ⟨b, 1, none⟩ (.int .u32 x1)).setCell ⟨b, 2, none⟩ (.int .u32 x2)).setCell ⟨b, 3, none⟩ (.int .u32 x3)).setCell ⟨b, 4, none⟩ (.int .u32 x4)).setCell ⟨b, 5, none⟩ (.int .u32 x5)).setCell ⟨b, 6, none⟩ (.int .u32 x6)).setCell ⟨b, 7, none⟩ (.int .u32 x7)) b T x0 x1 x2 x3 x4 x5 x6 x7 := by have := blk_set h6 7 (.int .u32 x7); simpa [V8] using this
 exact ⟨h7, (((((((((Keeps.refl (fun i => i = b) w).setCell (p := ⟨b, 0, none⟩) (Or.inl rfl) (.int .u32 x0)).setCell (p := ⟨b, 1, none⟩) (Or.inl rfl) (.int .u32 x1)).setCell (p := ⟨b, 2, none⟩) (Or.inl rfl) (.int .u32 x2)).setCell (p := ⟨b, 3, none⟩) (Or.inl rfl) (.int .u32 x3)).setCell (p := ⟨b, 4, none⟩) (Or.inl rfl) (.int .u32 x4)).setCell (p := ⟨b, 5, none⟩) (Or.inl rfl) (.int .u32 x5)).setCell (p := ⟨b, 6, none⟩) (Or.inl rfl) (.int .u32 x6)).setCell (p := ⟨b, 7, none⟩) (Or.inl rfl) (.int .u32 x7))⟩
set_option maxRecDepth 100000 in
set_option maxHeartbeats 4000000 in
theorem rblock_any (hb ho hcap kb kcap : Nat) (TH TK : TypeId) (bo : Option Addr) (bs : List Int) (cap : Nat) (hs : List Int) (w : World) (h8 : hs.length = 8) (hne : hb ≠ kb) (c0 : Array Value) (hh : ArrF w hb TH 8 ho (fun j => hs.getD j 0) c0) (hhi : ∀ j, InU (hs.getD j 0)) (hk : ArrAt w kb TK 64 0 kAt) (hn : bs.length = 64) (hbs : IntsAt .u8 w bo bs) (hB : InB bs) :
 Calls Tryz.prog 124 #[.slice (some ⟨hb, ho, none⟩) 8 hcap, .slice (some ⟨kb, 0, none⟩) 64 kcap, .slice bo 64 cap] w fun e w' => e = .returned (.tuple #[]) ∧ ArrF w' hb TH 8 ho (fun j => (mixF hs bs).getD j 0) c0 ∧ Keeps (fun i => i = hb) w w' := by
 have HKA := Lib.hid hk
 have HHI := Lib.hid hhi
 have H8 := Lib.hid h8
 have HNE := Lib.hid hne
 have HH := Lib.hid hh
 have HN := Lib.hid hn
 have HBY := Lib.hid hB
 obtain ⟨b, off, rfl, hc⟩ : ∃ b off, bo = some ⟨b, off, none⟩ ∧ ∀ i, i < 64 → w.cell? ⟨b, off + i, none⟩ = some (.int .u8 (bs.getD i 0)) := by
  rcases hbs with h | ⟨b, off, h1, h2⟩
  · rw [h] at hn; simp at hn
  · exact ⟨b, off, h1, fun i hi => h2 i (by omega)⟩
 obtain ⟨w1, hw1⟩ : ∃ w1, w1 = w.alloc (.cells za 98) := ⟨_, rfl⟩
 have HB1 : Hid (Below w.heap.size w w1) := Lib.hid (by rw [hw1]; exact (Below.refl _ _).alloc (Nat.le_refl _) _)
 have HA1 : Hid (ArrAt w1 w.heap.size 98 64 0 (fun j => (wPre bs 0).getD j 0)) := Lib.hid (by
  rw [hw1]
  exact ⟨_, heap_alloc_new w _, by rw [za_size]; omega, fun j hj => by rw [za_at j hj]; simp [wPre]⟩)
 have HC := Lib.hid (fun wr (hk : Keeps (fun i => i = w.heap.size) w1 wr) i (hi : i < 64) => show wr.cell? ⟨b, off + i, none⟩ = some (.int .u8 (bs.getD i 0)) by
  have h1 := hc i hi
  have h2 := World.block_lt_of_cell? w _ h1
  have h2 : b < w.heap.size := h2
  have e1 : w1.heap[b]? = w.heap[b]? := HB1.out.block b h2
  have e2 : wr.heap[b]? = w1.heap[b]? := hk.block b (Nat.lt_of_lt_of_le h2 HB1.out.size) (by omega)
  unfold World.cell? at h1 ⊢
  rw [e2, e1]; exact h1)
 have hbw : b < w.heap.size := World.block_lt_of_cell? w _ (hc 0 (by omega))
 have HBA : Hid (∀ i, i < 64 → 0 ≤ bs.getD i 0 ∧ bs.getD i 0 ≤ 255) := Lib.hid (fun i hi => hB _ (by
  have hl : i < bs.length := by omega
  simp only [List.getD, List.getElem?_eq_getElem hl, Option.getD_some]
  exact List.getElem_mem hl))
 unfold za at hw1
 have HW1 := Lib.hid hw1
 obtain ⟨MXF, hMXF⟩ : ∃ m : Nat → Int, m = fun j => (mixF hs bs).getD j 0 := ⟨_, rfl⟩
 have HMF := Lib.hid hMXF
 rw [← hMXF]
 clear hk hh hbs hn hB hc hw1 hhi h8 hne hMXF
 go_enter Tryz.func124, Tryz.ntmps124
 go_upto_region 1 with fail
 rw [← HW1.out]
 go_wp2_with fail
 go_loopw [7] (fun i wr => ∃ k : Nat, k ≤ 16 ∧ i = .int .i64 k ∧ ArrAt wr w.heap.size 98 64 0 (fun j => (wPre bs k).getD j 0) ∧ Keeps (fun i => i = w.heap.size) w1 wr) (fun i _ => 16 - (intOf i).toNat)
 case atStart => exact ⟨0, Nat.zero_le _, rfl, HA1.out, Keeps.refl _ _⟩
 case round =>
  obtain ⟨k, hk, rfl, ha, hkp⟩ := hrel
  have HA := Lib.hid ha
  have HKP := Lib.hid hkp
  clear ha hkp
  by_cases hlt : k < 16
  · have j0 : (0 : Int) ≤ (k : Int) := by omega
    have j1 : (k : Int) < 16 := by omega
    have HNX : Hid (wNext bs (wPre bs k) = be4 [bs.getD (4 * k) 0, bs.getD (4 * k + 1) 0, bs.getD (4 * k + 2) 0, bs.getD (4 * k + 3) 0]) := Lib.hid (by
     unfold wNext m16
     rw [wPre_len, if_pos hlt, drop_four bs k (by have := HN.out; omega)])
    have HWN := Lib.hid (wPre_next bs k)
    have q0 := HC.out wr HKP.out (4 * k) (by omega)
    have q1 := HC.out wr HKP.out (4 * k + 1) (by omega)
    have q2 := HC.out wr HKP.out (4 * k + 2) (by omega)
    have q3 := HC.out wr HKP.out (4 * k + 3) (by omega)
    have HR0 := Lib.hid (HBA.out (4 * k) (by omega))
    have HR1 := Lib.hid (HBA.out (4 * k + 1) (by omega))
    have HR2 := Lib.hid (HBA.out (4 * k + 2) (by omega))
    have HR3 := Lib.hid (HBA.out (4 * k + 3) (by omega))
    generalize bs.getD (4 * k) 0 = b0 at *
    generalize bs.getD (4 * k + 1) 0 = b1 at *
    generalize bs.getD (4 * k + 2) 0 = b2 at *
    generalize bs.getD (4 * k + 3) 0 = b3 at *
    obtain ⟨cw, fw⟩ := HA.out.cell k (by omega)
    simp only [Nat.zero_add] at cw fw
    have hz0 := HR0.out
    have hz1 := HR1.out
    have hz2 := HR2.out
    have hz3 := HR3.out
    have j2 : (k : Int) < 64 := by omega
    have w4 : IntKind.i64.wrap (4 * (k : Int)) = 4 * (k : Int) := by rw [IntKind.wrap_i64]; omega
    have i0 : (0 : Int) ≤ 4 * (k : Int) := by omega
    have i1 : 4 * (k : Int) < 64 := by omega
    have w41 : IntKind.i64.wrap (4 * (k : Int) + 1) = 4 * (k : Int) + 1 := by rw [IntKind.wrap_i64]; omega
    have w42 : IntKind.i64.wrap (4 * (k : Int) + 2) = 4 * (k : Int) + 2 := by rw [IntKind.wrap_i64]; omega
    have w43 : IntKind.i64.wrap (4 * (k : Int) + 3) = 4 * (k : Int) + 3 := by rw [IntKind.wrap_i64]; omega
    have i11 : (0 : Int) ≤ 4 * (k : Int) + 1 := by omega
    have i12 : (0 : Int) ≤ 4 * (k : Int) + 2 := by omega
    have i13 : (0 : Int) ≤ 4 * (k : Int) + 3 := by omega
    have i21 : 4 * (k : Int) + 1 < 64 := by omega
    have i22 : 4 * (k : Int) + 2 < 64 := by omega
    have i23 : 4 * (k : Int) + 3 < 64 := by omega
    have t0 : (4 * (k : Int)).toNat = 4 * k := by omega
    have t1 : (4 * (k : Int) + 1).toNat = 4 * k + 1 := by omega
    have t2 : (4 * (k : Int) + 2).toNat = 4 * k + 2 := by omega
    have t3 : (4 * (k : Int) + 3).toNat = 4 * k + 3 := by omega
    go_wp2_with fail
    refine wp_region_held_drew (S := fun w' => w'.cell? ⟨b, off + 4 * k, none⟩ = some (.int .u8 b0) ∧ w'.cell? ⟨b, off + (4 * k + 1), none⟩ = some (.int .u8 b1) ∧ w'.cell? ⟨b, off + (4 * k + 2), none⟩ = some (.int .u8 b2) ∧ w'.cell? ⟨b, off + (4 * k + 3), none⟩ = some (.int .u8 b3)) (by kernel_rfl) ?_ (fun hHeld => ?_)
    · exact ⟨q0, q1, q2, q3⟩
    refine tk 0 22 ?_
    simp only [lz]
    refine tk 1 23 ?_
    simp only [lz]
    refine tk 2 24 ?_
    simp only [lz]
    refine tk 3 25 ?_
    simp only [lz]
    refine tk 4 26 ?_
    simp only [lz]
    refine tk 5 27 ?_
    simp only [lz]
    refine tk 6 28 ?_
    simp only [lz]
    refine tk 7 29 ?_
    simp only [lz]
    refine tk 8 30 ?_
    simp only [lz]
    refine tk 9 31 ?_
    simp only [lz]
    refine tk 10 32 ?_
    simp only [lz]
    refine tk 11 33 ?_
    simp only [lz]
    refine tk 12 34 ?_
    simp only [lz]
    refine tk 13 35 ?_
    simp only [lz]
    refine tk 14 36 ?_
    simp only [lz]
    refine tk 15 37 ?_
    simp only [lz]
    refine tk 16 38 ?_
    simp only [lz]
    refine tk 17 39 ?_
    simp only [lz]
    refine tk 18 40 ?_
    simp only [lz]
    refine tk 19 41 ?_
    simp only [lz]
    refine tk 20 42 ?_
    simp only [lz]
    refine tk 21 43 ?_
    simp only [lz]
    refine tk 22 44 ?_
    simp only [lz]
    refine tk 23 45 ?_
    simp only [lz]
    refine tk 24 46 ?_
    simp only [lz]
    refine tk 25 47 ?_
    simp only [lz]
    refine tk 26 48 ?_
    simp only [lz]
    refine tk 27 49 ?_
    simp only [lz]
    refine tk 28 50 ?_
    simp only [lz]
    refine tk 29 51 ?_
    simp only [lz]
    refine tk 30 52 ?_
    simp only [lz]
    refine tk 31 53 ?_
    simp only [lz]
    refine tk 32 54 ?_
    simp only [lz]
    refine tk 33 55 ?_
    simp only [lz]
    refine tk 34 56 ?_
    simp only [lz]
    have q : wr.drew.cell? ⟨w.heap.size, k, none⟩ = _ := cw
    have qf : wr.drew.frozen? ⟨w.heap.size, k, none⟩ = false := fw
    have HV : Hid (bits .or .u32 (bits .or .u32 (bits .or .u32 (IntKind.u32.wrap (IntKind.u32.wrap b0 * 16777216)) (IntKind.u32.wrap (IntKind.u32.wrap b1 * 65536))) (IntKind.u32.wrap (IntKind.u32.wrap b2 * 256))) (IntKind.u32.wrap b3) = be4 [b0, b1, b2, b3]) := Lib.hid (by
     rw [← be4_ref b0 b1 b2 b3 HR0.out HR1.out HR2.out HR3.out, show IntKind.u32.wrap b0 = b0 by rw [IntKind.wrap_u32]; omega, show IntKind.u32.wrap b1 = b1 by rw [IntKind.wrap_u32]; omega, show IntKind.u32.wrap b2 = b2 by rw [IntKind.wrap_u32]; omega, show IntKind.u32.wrap b3 = b3 by rw [IntKind.wrap_u32]; omega]
     simp only [IntKind.wrap_u32])
    refine wpAnyH_ready (rs := [35]) (by kernel_rfl) (by simp) ?_
    refine AllReadyH.cons rfl (fun K hK => ?_) AllReadyH.nil
    go_simp
    rw [HV.out]
    generalize hbe : be4 [b0, b1, b2, b3] = BE at *
    have HBE := Lib.hid hbe
    clear hbe
    go_wp2_with fail
    refine hK.out _ _ ?_ (fun hHeld => ?_)
    · exact ⟨(World.cell?_setCell_other _ _ _ _ (by simp <;> omega)).trans q0, (World.cell?_setCell_other _ _ _ _ (by simp <;> omega)).trans q1, (World.cell?_setCell_other _ _ _ _ (by simp <;> omega)).trans q2, (World.cell?_setCell_other _ _ _ _ (by simp <;> omega)).trans q3⟩
    clear hK K
    try simp only [Act.put, lg]
    try simp only [lz]
    refine wpAnyH_done (by kernel_rfl) ?_ _
    have HA2 := Lib.hid (((HA.out.set k (by omega) BE).to (f' := fun j => (wPre bs (k + 1)).getD j 0) (fun j hj => by
     rw [HWN.out]
     by_cases e : j = k
     · rw [if_pos e, if_pos e, HNX.out]
     · rw [if_neg e, if_neg e])).same (w' := (wr.setCell ⟨w.heap.size, k, none⟩ (.int .u32 BE)).drew) (by rw [Nat.zero_add]; rfl))
    have HK2 := Lib.hid (Keeps.setD HKP.out k (.int .u32 BE))
    go_wp2_with fail
    go_roundw
    case rel => exact ⟨k + 1, by omega, by go_num, HA2.out, HK2.out⟩
    case measure => simp [intOf]; omega
  · obtain rfl : k = 16 := by omega
    have HA16 := HA
    have HKP16 := HKP
    clear HA HKP
    go_wp2_with fail
    go_loopw [8] (fun i wr => ∃ q : Nat, q ≤ 48 ∧ i = .int .i64 ((q + 16 : Nat) : Int) ∧ ArrAt wr w.heap.size 98 64 0 (fun j => (wPre bs (q + 16)).getD j 0) ∧ Keeps (fun i => i = w.heap.size) w1 wr) (fun i _ => 64 - (intOf i).toNat)
    case atStart => exact ⟨0, Nat.zero_le _, rfl, HA16.out, HKP16.out⟩
    case round =>
     obtain ⟨q, hq, rfl, ha, hkp⟩ := hrel
     have HA := Lib.hid ha
     have HKP := Lib.hid hkp
     clear ha hkp
     by_cases hlt2 : q < 48
     · obtain ⟨c1, _⟩ := HA.out.cell (q + 1) (by omega)
       obtain ⟨c14, _⟩ := HA.out.cell (q + 14) (by omega)
       obtain ⟨c0', _⟩ := HA.out.cell q (by omega)
       obtain ⟨c9, _⟩ := HA.out.cell (q + 9) (by omega)
       obtain ⟨cw, fw⟩ := HA.out.cell (q + 16) (by omega)
       simp only [Nat.zero_add] at c1 c14 c0' c9 cw fw
       have HV1 := Lib.hid (wPre_in bs (q + 16) (q + 1))
       have HV14 := Lib.hid (wPre_in bs (q + 16) (q + 14))
       have HNX : Hid (wNext bs (wPre bs (q + 16)) = ((((wPre bs (q + 16)).getD q 0 + sg0 ((wPre bs (q + 16)).getD (q + 1) 0)) % 4294967296 + (wPre bs (q + 16)).getD (q + 9) 0) % 4294967296 + sg1 ((wPre bs (q + 16)).getD (q + 14) 0)) % 4294967296) := Lib.hid (by
        unfold wNext wSched
        rw [wPre_len, if_neg (by omega), show q + 16 - 16 = q by omega, show q + 16 - 15 = q + 1 by omega, show q + 16 - 7 = q + 9 by omega, show q + 16 - 2 = q + 14 by omega])
       have HWN := Lib.hid (wPre_next bs (q + 16))
       generalize (wPre bs (q + 16)).getD (q + 1) 0 = x1 at *
       generalize (wPre bs (q + 16)).getD (q + 14) 0 = x14 at *
       generalize (wPre bs (q + 16)).getD q 0 = x0 at *
       generalize (wPre bs (q + 16)).getD (q + 9) 0 = x9 at *
       generalize (wPre bs (q + 16)).getD (q + 16) 0 = x16 at *
       have j0 : (0 : Int) ≤ (q : Int) := by omega
       have j1 : (q : Int) < 48 := by omega
       have k1 : (q : Int) + 16 < 64 := by omega
       go_upto_region 8 with fail
       go_quiet (fail)
       go_wp2_with fail
       have HA5 := Lib.hid (HA.out.same (w' := wr.drewN nq) rfl)
       have HK5 := Lib.hid (HKP.out.trans ((Keeps.refl (fun i => i = w.heap.size) wr).drewN nq) (fun i hi => Or.inl hi))
       have d0 : (wr.drewN nq).cell? ⟨w.heap.size, q, none⟩ = some (.int .u32 x0) := c0'
       have d9 : (wr.drewN nq).cell? ⟨w.heap.size, q + 9, none⟩ = some (.int .u32 x9) := c9
       have dw : (wr.drewN nq).cell? ⟨w.heap.size, q + 16, none⟩ = some (.int .u32 x16) := cw
       have dwf : (wr.drewN nq).frozen? ⟨w.heap.size, q + 16, none⟩ = false := fw
       generalize wr.drewN nq = w5 at *
       clear c0' c1 c9 c14 cw fw HA HKP
       have hwq : IntKind.i64.wrap (q : Int) = q := by rw [IntKind.wrap_i64]; omega
       have hwq9 : IntKind.i64.wrap ((q : Int) + 9) = (q : Int) + 9 := by rw [IntKind.wrap_i64]; omega
       have hwq7 : IntKind.i64.wrap ((q : Int) + 16 - 7) = (q : Int) + 9 := by rw [IntKind.wrap_i64]; omega
       have hwq16 : IntKind.i64.wrap ((q : Int) + 16) = (q : Int) + 16 := by rw [IntKind.wrap_i64]; omega
       have i9 : (0 : Int) ≤ (q : Int) + 9 := by omega
       have i9b : (q : Int) + 9 < 64 := by omega
       have i16 : (0 : Int) ≤ (q : Int) + 16 := by omega
       have j2 : (q : Int) < 64 := by omega
       have t0 : (q : Int).toNat = q := by omega
       have t9 : ((q : Int) + 9).toNat = q + 9 := by omega
       have t16 : ((q : Int) + 16).toNat = q + 16 := by omega
       refine wp_region_held_drew (S := fun w' => w'.cell? ⟨w.heap.size, q, none⟩ = some (.int .u32 x0) ∧ w'.cell? ⟨w.heap.size, q + 9, none⟩ = some (.int .u32 x9)) (by kernel_rfl) ?_ (fun hHeld => ?_)
       · exact ⟨d0, d9⟩
       refine tk 0 69 ?_
       simp only [lz]
       refine tk 1 70 ?_
       simp only [lz]
       refine tk 2 71 ?_
       simp only [lz]
       refine tk 3 72 ?_
       simp only [lz]
       refine tk 4 73 ?_
       simp only [lz]
       refine tk 5 74 ?_
       simp only [lz]
       refine tk 7 76 ?_
       simp only [lz]
       refine tk 10 79 ?_
       simp only [lz]
       refine tk 11 80 ?_
       simp only [lz]
       refine tk 14 83 ?_
       simp only [lz]
       refine tk 15 84 ?_
       simp only [lz]
       refine tk 16 85 ?_
       simp only [lz]
       refine tk 17 86 ?_
       simp only [lz]
       refine tk 19 88 ?_
       simp only [lz]
       refine tk 21 90 ?_
       simp only [lz]
       refine tk 24 93 ?_
       simp only [lz]
       refine tk 25 94 ?_
       simp only [lz]
       refine wpAnyH_ready (rs := [6]) (by kernel_rfl) (by simp) ?_
       refine AllReadyH.cons rfl (fun K hK => ?_) AllReadyH.nil
       go_simp
       go_at_call 132
       refine (turn_any x1 7 HV1.out (by omega) (by omega) _).mono ?_
       rintro e w6 ⟨rfl, rfl⟩
       dsimp only
       go_wp2_with fail
       refine hK.out _ _ ?_ (fun hHeld => ?_)
       · exact ⟨d0, d9⟩
       clear hK K
       try simp only [Act.put, lg]
       try simp only [lz]
       refine wpAnyH_ready (rs := [8]) (by kernel_rfl) (by simp) ?_
       refine AllReadyH.cons rfl (fun K hK => ?_) AllReadyH.nil
       go_simp
       go_at_call 132
       refine (turn_any x1 18 HV1.out (by omega) (by omega) _).mono ?_
       rintro e w6 ⟨rfl, rfl⟩
       dsimp only
       go_wp2_with fail
       refine hK.out _ _ ?_ (fun hHeld => ?_)
       · exact ⟨d0, d9⟩
       clear hK K
       try simp only [Act.put, lg]
       try simp only [lz]
       refine tk 9 78 ?_
       simp only [lz]
       refine tk 12 81 ?_
       simp only [lz]
       refine tk 13 82 ?_
       simp only [lz]
       refine tk 18 87 ?_
       simp only [lz]
       refine wpAnyH_ready (rs := [20]) (by kernel_rfl) (by simp) ?_
       refine AllReadyH.cons rfl (fun K hK => ?_) AllReadyH.nil
       go_simp
       go_at_call 132
       refine (turn_any x14 17 HV14.out (by omega) (by omega) _).mono ?_
       rintro e w6 ⟨rfl, rfl⟩
       dsimp only
       go_wp2_with fail
       refine hK.out _ _ ?_ (fun hHeld => ?_)
       · exact ⟨d0, d9⟩
       clear hK K
       try simp only [Act.put, lg]
       try simp only [lz]
       refine wpAnyH_ready (rs := [22]) (by kernel_rfl) (by simp) ?_
       refine AllReadyH.cons rfl (fun K hK => ?_) AllReadyH.nil
       go_simp
       go_at_call 132
       refine (turn_any x14 19 HV14.out (by omega) (by omega) _).mono ?_
       rintro e w6 ⟨rfl, rfl⟩
       dsimp only
       go_wp2_with fail
       refine hK.out _ _ ?_ (fun hHeld => ?_)
       · exact ⟨d0, d9⟩
       clear hK K
       try simp only [Act.put, lg]
       try simp only [lz]
       refine tk 23 92 ?_
       simp only [lz]
       refine tk 26 95 ?_
       simp only [lz]
       refine tk 27 96 ?_
       simp only [lz]
       refine tk 28 97 ?_
       simp only [lz]
       have q1 : w5.drew.cell? ⟨w.heap.size, q + 16, none⟩ = some (.int .u32 x16) := dw
       have q2 : w5.drew.frozen? ⟨w.heap.size, q + 16, none⟩ = false := dwf
       refine wpAnyH_ready (rs := [29]) (by kernel_rfl) (by simp) ?_
       refine AllReadyH.cons rfl (fun K hK => ?_) AllReadyH.nil
       go_simp
       go_wp2_with fail
       refine hK.out _ _ ?_ (fun hHeld => ?_)
       · exact ⟨(World.cell?_setCell_other _ ⟨w.heap.size, q + 16, none⟩ ⟨w.heap.size, q, none⟩ _ (by simp)).trans d0, (World.cell?_setCell_other _ ⟨w.heap.size, q + 16, none⟩ ⟨w.heap.size, q + 9, none⟩ _ (by simp)).trans d9⟩
       clear hK K
       try simp only [Act.put, lg]
       try simp only [lz]
       refine wpAnyH_done (by kernel_rfl) ?_ _
       go_wp2_with fail
       go_roundw
       case rel =>
        have HAF : ∀ v, v = wNext bs (wPre bs (q + 16)) → ArrAt ((w5.setCell ⟨w.heap.size, q + 16, none⟩ (.int .u32 v)).drew) w.heap.size 98 64 0 (fun j => (wPre bs (q + 1 + 16)).getD j 0) := fun v hv => HA5.out.setD (q + 16) (by omega) v (fun j hj => by
         rw [show q + 1 + 16 = q + 16 + 1 by omega, HWN.out, hv])
        first
         | exact ⟨q + 1, by omega, by go_num, HAF _ (by rw [HNX.out]; unfold sg0 sg1; simp only [IntKind.wrap_u32]), Keeps.setD HK5.out (q + 16) _⟩
         | ((repeat apply Exists.intro); refine ⟨?_, rfl⟩; exact ⟨q + 1, by omega, by go_num, HAF _ (by rw [HNX.out]; unfold sg0 sg1; simp only [IntKind.wrap_u32]), Keeps.setD HK5.out (q + 16) _⟩)
       case measure => simp [intOf]; omega
     · obtain rfl : q = 48 := by omega
       have HAW : Hid (ArrAt wr w.heap.size 98 64 0 (fun j => (wPre bs 64).getD j 0)) := HA
       have hkp := HKP.out
       obtain ⟨h0, h1, h2, h3, h4, h5, h6, h7, rfl⟩ : ∃ h0 h1 h2 h3 h4 h5 h6 h7, hs = [h0, h1, h2, h3, h4, h5, h6, h7] := by
        have := H8.out
        match hs, this with
        | [h0, h1, h2, h3, h4, h5, h6, h7], _ => exact ⟨h0, h1, h2, h3, h4, h5, h6, h7, rfl⟩
       have eb : wr.heap[hb]? = w.heap[hb]? := (hkp.block hb (Nat.lt_of_lt_of_le HH.out.lt HB1.out.size) (by have := HH.out.lt; omega)).trans (HB1.out.block hb HH.out.lt)
       have ek : wr.heap[kb]? = w.heap[kb]? := (hkp.block kb (Nat.lt_of_lt_of_le HKA.out.lt HB1.out.size) (by have := HKA.out.lt; omega)).trans (HB1.out.block kb HKA.out.lt)
       have HH2 := Lib.hid (HH.out.same eb)
       have HK2 := Lib.hid (HKA.out.same ek)
       obtain ⟨wv, hwv⟩ : ∃ wv, wv = wr.alloc (.cells #[.int .u32 0, .int .u32 0, .int .u32 0, .int .u32 0, .int .u32 0, .int .u32 0, .int .u32 0, .int .u32 0] 99) := ⟨_, rfl⟩
       have HBV : Hid (Below wr.heap.size wr wv) := Lib.hid (by rw [hwv]; exact (Below.refl _ _).alloc (Nat.le_refl _) _)
       have HZV : Hid (V8 wv wr.heap.size 99 0 0 0 0 0 0 0 0) := Lib.hid (by rw [hwv]; exact heap_alloc_new _ _)
       have HWV := Lib.hid hwv
       clear hkp eb ek hwv HA HKP16 HA16 HBY HBA HC
       go_upto_region 11 with fail
       rw [← HWV.out]
       obtain ⟨w6, hcp, h6v, hk6⟩ : ∃ w6, (Builtin.copy_ #[190, 190] 3 #[.slice (some ⟨wr.heap.size, 0, none⟩) 8 8, .slice (some ⟨hb, ho, none⟩) 8 hcap]).run Tryz.prog wv = .ok (.int .i64 8) w6 ∧ V8 w6 wr.heap.size 99 h0 h1 h2 h3 h4 h5 h6 h7 ∧ Keeps (fun i => i = wr.heap.size) wv w6 := by
        have HHv := HH2.out.below HBV.out
        have hr := run_copy_row (P := Tryz.prog) wv 190 190 3 89 wr.heap.size 0 8 8 ⟨hb, ho, none⟩ 8 hcap _ 99 [.int .u32 h0, .int .u32 h1, .int .u32 h2, .int .u32 h3, .int .u32 h4, .int .u32 h5, .int .u32 h6, .int .u32 h7] (by kernel_rfl) (by kernel_rfl) HZV.out rfl
         (fun j v hj => by
           match j, hj with
           | 0, hj => simp at hj; subst hj; rw [addr_add]; exact (HHv.cell 0 (by omega)).1
           | 1, hj => simp at hj; subst hj; rw [addr_add]; exact (HHv.cell 1 (by omega)).1
           | 2, hj => simp at hj; subst hj; rw [addr_add]; exact (HHv.cell 2 (by omega)).1
           | 3, hj => simp at hj; subst hj; rw [addr_add]; exact (HHv.cell 3 (by omega)).1
           | 4, hj => simp at hj; subst hj; rw [addr_add]; exact (HHv.cell 4 (by omega)).1
           | 5, hj => simp at hj; subst hj; rw [addr_add]; exact (HHv.cell 5 (by omega)).1
           | 6, hj => simp at hj; subst hj; rw [addr_add]; exact (HHv.cell 6 (by omega)).1
           | 7, hj => simp at hj; subst hj; rw [addr_add]; exact (HHv.cell 7 (by omega)).1
           | j + 8, hj => simp at hj)
         (by simp) (by intro v hv; simp at hv; rcases hv with rfl | rfl | rfl | rfl | rfl | rfl | rfl | rfl <;> rfl)
        exact ⟨_, hr, setRow_heap wv _ _ _ _ _ HZV.out, ⟨rfl, rfl, rfl, by simp [World.setRow], fun k hk hn => setRow_other wv _ k _ hn⟩⟩
       have HV6 := Lib.hid h6v
       have HK6 := Lib.hid hk6
       clear h6v hk6
       go_wp2_with fail
       clear hcp
       have HAV := Lib.hid ((HAW.out.below HBV.out).same (HK6.out.block w.heap.size (by have := HAW.out.lt; have := HBV.out.size; omega) (by have := HAW.out.lt; omega)))
       have HKV := Lib.hid ((HK2.out.below HBV.out).same (HK6.out.block kb (by have := HK2.out.lt; have := HBV.out.size; omega) (by have := HK2.out.lt; omega)))
       have HHV := Lib.hid ((HH2.out.below HBV.out).same (HK6.out.block hb (by have := HH2.out.lt; have := HBV.out.size; omega) (by have := HH2.out.lt; omega)))
       have HNE2 : Hid (w.heap.size < wr.heap.size ∧ kb < w.heap.size ∧ hb < w.heap.size ∧ wr.heap.size < w6.heap.size) := Lib.hid ⟨HAW.out.lt, HKA.out.lt, HH.out.lt, HV6.out.lt⟩
       have HKW : Hid (Keeps (fun i => i = w.heap.size) w w6) := Lib.hid ((((Keeps.of_below HB1.out).trans HKP.out (fun i hi => Or.inl hi)).trans (Keeps.of_below (S := fun _ => False) HBV.out) (fun _ h => h.elim)).trans HK6.out (fun i h => Or.inr (by have := HAW.out.lt; omega)))
       have HIN := Lib.hid (fun k j => vRun_in (wPre bs 64) [h0, h1, h2, h3, h4, h5, h6, h7] HHI.out k j)
       generalize hV : wr.heap.size = V at *
       generalize hW : w.heap.size = W at *
       have HVe := Lib.hid hV
       have HWe := Lib.hid hW
       clear hV hW HAW HK2 HH2 HBV HZV HWV HKP HK6 HB1 HA1 HW1 HN HKA HH
       go_loopw [12] (fun i wx => ∃ k : Nat, k ≤ 64 ∧ i = .int .i64 k ∧ ∃ a0 a1 a2 a3 a4 a5 a6 a7, vRun (wPre bs 64) [h0, h1, h2, h3, h4, h5, h6, h7] k = [a0, a1, a2, a3, a4, a5, a6, a7] ∧ V8 wx V 99 a0 a1 a2 a3 a4 a5 a6 a7 ∧ Keeps (fun i => i = V) w6 wx) (fun i _ => 64 - (intOf i).toNat)
       case atStart => exact ⟨0, Nat.zero_le _, rfl, h0, h1, h2, h3, h4, h5, h6, h7, rfl, HV6.out, Keeps.refl _ _⟩
       case round =>
        obtain ⟨k, hk, rfl, a0, a1, a2, a3, a4, a5, a6, a7, hr, hv, hkp⟩ := hrel
        have HV2 := Lib.hid hv
        have HK3 := Lib.hid hkp
        have HR := Lib.hid hr
        have HA3 := Lib.hid (HAV.out.same (hkp.block W HAV.out.lt (by have := HNE2.out; omega)))
        have HKK := Lib.hid (HKV.out.same (hkp.block kb HKV.out.lt (by have := HNE2.out; omega)))
        clear hr hv hkp
        by_cases hlt3 : k < 64
        · have j0 : (0 : Int) ≤ (k : Int) := by omega
          have j1 : (k : Int) < 64 := by omega
          obtain ⟨c0', c1, c2, c3, c4, c5, c6, c7⟩ := HV2.out.c
          have ck := (HKK.out.cell k hlt3).1
          have cwk := (HA3.out.cell k hlt3).1
          simp only [Nat.zero_add] at ck cwk
          have HI0 := Lib.hid (by have := HIN.out k 0; rw [HR.out] at this; exact this : InU a0)
          have HI4 := Lib.hid (by have := HIN.out k 4; rw [HR.out] at this; exact this : InU a4)
          have HRN : Hid (vRun (wPre bs 64) [h0, h1, h2, h3, h4, h5, h6, h7] (k + 1) = [(oneF (kAt k) ((wPre bs 64).getD k 0) a4 a5 a6 a7 + twoF a0 a1 a2) % 4294967296, a0, a1, a2, (a3 + oneF (kAt k) ((wPre bs 64).getD k 0) a4 a5 a6 a7) % 4294967296, a4, a5, a6]) := Lib.hid (by
           show vStep _ _ _ = _
           rw [HR.out]; rfl)
          generalize kAt k = kk at *
          generalize (wPre bs 64).getD k 0 = wk at *
          go_upto_region 15 with fail
          go_quiet (fail)
          go_wp2_with fail
          have HV5 := Lib.hid (HV2.out.same (w' := wr.drewN nq) rfl)
          have HK5 := Lib.hid (HK3.out.trans ((Keeps.refl (fun i => i = V) wr).drewN nq) (fun i hi => Or.inl hi))
          have d1 : (wr.drewN nq).cell? ⟨V, 1, none⟩ = some (.int .u32 a1) := c1
          have d2 : (wr.drewN nq).cell? ⟨V, 2, none⟩ = some (.int .u32 a2) := c2
          have d5 : (wr.drewN nq).cell? ⟨V, 5, none⟩ = some (.int .u32 a5) := c5
          have d6 : (wr.drewN nq).cell? ⟨V, 6, none⟩ = some (.int .u32 a6) := c6
          have d7 : (wr.drewN nq).cell? ⟨V, 7, none⟩ = some (.int .u32 a7) := c7
          have dk : (wr.drewN nq).cell? ⟨kb, k, none⟩ = some (.int .u32 kk) := ck
          have dw : (wr.drewN nq).cell? ⟨W, k, none⟩ = some (.int .u32 wk) := cwk
          generalize wr.drewN nq = w5 at *
          clear c0' c1 c2 c3 c4 c5 c6 c7 ck cwk HV2 HK3
          refine wp_region_held_drew (S := fun w' => w'.cell? ⟨V, 7, none⟩ = some (.int .u32 a7) ∧ w'.cell? ⟨V, 5, none⟩ = some (.int .u32 a5) ∧ w'.cell? ⟨V, 6, none⟩ = some (.int .u32 a6) ∧ w'.cell? ⟨kb, k, none⟩ = some (.int .u32 kk) ∧ w'.cell? ⟨W, k, none⟩ = some (.int .u32 wk)) (by kernel_rfl) ?_ (fun hHeld => ?_)
          · exact ⟨d7, d5, d6, dk, dw⟩
          refine tk 0 109 ?_
          simp only [lz]
          refine tk 1 110 ?_
          simp only [lz]
          refine tk 2 111 ?_
          simp only [lz]
          refine tk 4 113 ?_
          simp only [lz]
          refine tk 7 116 ?_
          simp only [lz]
          refine tk 11 120 ?_
          simp only [lz]
          refine tk 12 121 ?_
          simp only [lz]
          refine tk 13 122 ?_
          simp only [lz]
          refine tk 14 123 ?_
          simp only [lz]
          refine tk 15 124 ?_
          simp only [lz]
          refine tk 16 125 ?_
          simp only [lz]
          refine tk 17 126 ?_
          simp only [lz]
          refine tk 18 127 ?_
          simp only [lz]
          refine tk 19 128 ?_
          simp only [lz]
          refine tk 20 129 ?_
          simp only [lz]
          refine tk 22 131 ?_
          simp only [lz]
          refine tk 23 132 ?_
          simp only [lz]
          refine tk 24 133 ?_
          simp only [lz]
          refine tk 25 134 ?_
          simp only [lz]
          refine tk 27 136 ?_
          simp only [lz]
          refine tk 28 137 ?_
          simp only [lz]
          refine tk 29 138 ?_
          simp only [lz]
          refine wpAnyH_ready (rs := [3]) (by kernel_rfl) (by simp) ?_
          refine AllReadyH.cons rfl (fun K hK => ?_) AllReadyH.nil
          go_simp
          go_at_call 132
          refine (turn_any a4 6 HI4.out (by omega) (by omega) _).mono ?_
          rintro e w6' ⟨rfl, rfl⟩
          dsimp only
          go_wp2_with fail
          refine hK.out _ _ ?_ (fun hHeld => ?_)
          · exact ⟨d7, d5, d6, dk, dw⟩
          clear hK K
          try simp only [Act.put, lg]
          try simp only [lz]
          refine wpAnyH_ready (rs := [5]) (by kernel_rfl) (by simp) ?_
          refine AllReadyH.cons rfl (fun K hK => ?_) AllReadyH.nil
          go_simp
          go_at_call 132
          refine (turn_any a4 11 HI4.out (by omega) (by omega) _).mono ?_
          rintro e w6' ⟨rfl, rfl⟩
          dsimp only
          go_wp2_with fail
          refine hK.out _ _ ?_ (fun hHeld => ?_)
          · exact ⟨d7, d5, d6, dk, dw⟩
          clear hK K
          try simp only [Act.put, lg]
          try simp only [lz]
          refine tk 6 115 ?_
          simp only [lz]
          refine wpAnyH_ready (rs := [8]) (by kernel_rfl) (by simp) ?_
          refine AllReadyH.cons rfl (fun K hK => ?_) AllReadyH.nil
          go_simp
          go_at_call 132
          refine (turn_any a4 25 HI4.out (by omega) (by omega) _).mono ?_
          rintro e w6' ⟨rfl, rfl⟩
          dsimp only
          go_wp2_with fail
          refine hK.out _ _ ?_ (fun hHeld => ?_)
          · exact ⟨d7, d5, d6, dk, dw⟩
          clear hK K
          try simp only [Act.put, lg]
          try simp only [lz]
          refine tk 9 118 ?_
          simp only [lz]
          refine tk 10 119 ?_
          simp only [lz]
          refine tk 21 130 ?_
          simp only [lz]
          refine tk 26 135 ?_
          simp only [lz]
          refine tk 30 139 ?_
          simp only [lz]
          refine tk 31 15 ?_
          simp only [lz]
          refine wpAnyH_done (by kernel_rfl) ?_ _
          obtain ⟨one, hone⟩ : ∃ one, one = oneF kk wk a4 a5 a6 a7 := ⟨_, rfl⟩
          have e1 : IntKind.u32.wrap (IntKind.u32.wrap (IntKind.u32.wrap (IntKind.u32.wrap (a7 + bits BinOp.xor IntKind.u32 (bits BinOp.xor IntKind.u32 (rotI a4 6) (rotI a4 11)) (rotI a4 25)) + bits BinOp.xor IntKind.u32 (bits BinOp.and IntKind.u32 a4 a5) (bits BinOp.and IntKind.u32 (bits BinOp.xor IntKind.u32 IntKind.u32.max a4) a6)) + kk) + wk) = one := by
           rw [hone]
           unfold oneF bg1 chF cpl
           simp only [IntKind.wrap_u32]
           rfl
          rw [e1]
          rw [← hone] at HRN
          clear e1 hone hHeld
          have HV7 := Lib.hid (HV5.out.same (w' := w5.drew) rfl)
          have HK7 := Lib.hid (HK5.out.trans ((Keeps.refl (fun i => i = V) w5).drew) (fun i hi => Or.inl hi))
          have g1 : w5.drew.cell? ⟨V, 1, none⟩ = some (.int .u32 a1) := d1
          have g2 : w5.drew.cell? ⟨V, 2, none⟩ = some (.int .u32 a2) := d2
          generalize w5.drew = w7 at *
          clear d1 d2 d5 d6 d7 dk dw HV5 HK5
          go_wp2_with fail
          refine wp_region_held_drew (S := fun w' => w'.cell? ⟨V, 1, none⟩ = some (.int .u32 a1) ∧ w'.cell? ⟨V, 2, none⟩ = some (.int .u32 a2)) (by kernel_rfl) ?_ (fun hHeld => ?_)
          · exact ⟨g1, g2⟩
          refine tk 0 140 ?_
          simp only [lz]
          refine tk 2 142 ?_
          simp only [lz]
          refine tk 5 145 ?_
          simp only [lz]
          refine tk 8 148 ?_
          simp only [lz]
          refine tk 9 149 ?_
          simp only [lz]
          refine tk 10 150 ?_
          simp only [lz]
          refine tk 11 151 ?_
          simp only [lz]
          refine tk 12 152 ?_
          simp only [lz]
          refine tk 13 153 ?_
          simp only [lz]
          refine tk 14 154 ?_
          simp only [lz]
          refine tk 15 155 ?_
          simp only [lz]
          refine tk 16 156 ?_
          simp only [lz]
          refine tk 17 157 ?_
          simp only [lz]
          refine tk 18 158 ?_
          simp only [lz]
          refine tk 19 159 ?_
          simp only [lz]
          refine tk 20 160 ?_
          simp only [lz]
          refine tk 21 161 ?_
          simp only [lz]
          refine tk 22 162 ?_
          simp only [lz]
          refine wpAnyH_ready (rs := [1]) (by kernel_rfl) (by simp) ?_
          refine AllReadyH.cons rfl (fun K hK => ?_) AllReadyH.nil
          go_simp
          go_at_call 132
          refine (turn_any a0 2 HI0.out (by omega) (by omega) _).mono ?_
          rintro e w6' ⟨rfl, rfl⟩
          dsimp only
          go_wp2_with fail
          refine hK.out _ _ ?_ (fun hHeld => ?_)
          · exact ⟨g1, g2⟩
          clear hK K
          try simp only [Act.put, lg]
          try simp only [lz]
          refine wpAnyH_ready (rs := [3]) (by kernel_rfl) (by simp) ?_
          refine AllReadyH.cons rfl (fun K hK => ?_) AllReadyH.nil
          go_simp
          go_at_call 132
          refine (turn_any a0 13 HI0.out (by omega) (by omega) _).mono ?_
          rintro e w6' ⟨rfl, rfl⟩
          dsimp only
          go_wp2_with fail
          refine hK.out _ _ ?_ (fun hHeld => ?_)
          · exact ⟨g1, g2⟩
          clear hK K
          try simp only [Act.put, lg]
          try simp only [lz]
          refine tk 4 144 ?_
          simp only [lz]
          refine wpAnyH_ready (rs := [6]) (by kernel_rfl) (by simp) ?_
          refine AllReadyH.cons rfl (fun K hK => ?_) AllReadyH.nil
          go_simp
          go_at_call 132
          refine (turn_any a0 22 HI0.out (by omega) (by omega) _).mono ?_
          rintro e w6' ⟨rfl, rfl⟩
          dsimp only
          go_wp2_with fail
          refine hK.out _ _ ?_ (fun hHeld => ?_)
          · exact ⟨g1, g2⟩
          clear hK K
          try simp only [Act.put, lg]
          try simp only [lz]
          refine tk 7 147 ?_
          simp only [lz]
          refine tk 23 163 ?_
          simp only [lz]
          refine tk 24 16 ?_
          simp only [lz]
          refine wpAnyH_done (by kernel_rfl) ?_ _
          obtain ⟨two, htwo⟩ : ∃ two, two = twoF a0 a1 a2 := ⟨_, rfl⟩
          have e2 : IntKind.u32.wrap (bits BinOp.xor .u32 (bits BinOp.xor .u32 (rotI a0 2) (rotI a0 13)) (rotI a0 22) + bits BinOp.xor .u32 (bits BinOp.xor .u32 (bits BinOp.and .u32 a0 a1) (bits BinOp.and .u32 a0 a2)) (bits BinOp.and .u32 a1 a2)) = two := by
           rw [htwo, IntKind.wrap_u32]; rfl
          rw [e2]
          rw [← htwo] at HRN
          clear e2 htwo hHeld
          have HV8 := Lib.hid (HV7.out.same (w' := w7.drew) rfl)
          have HK8 := Lib.hid (HK7.out.trans ((Keeps.refl (fun i => i = V) w7).drew) (fun i hi => Or.inl hi))
          generalize w7.drew = w8 at *
          obtain ⟨c0', c1, c2, c3, c4, c5, c6, c7⟩ := HV8.out.c
          have f0 := HV8.out.f 0
          have f1 := HV8.out.f 1
          have f2 := HV8.out.f 2
          have f3 := HV8.out.f 3
          have f4 := HV8.out.f 4
          have f5 := HV8.out.f 5
          have f6 := HV8.out.f 6
          have f7 := HV8.out.f 7
          clear g1 g2 HV7 HK7
          go_wp2_with fail
          go_roundw
          case rel =>
           have hall := HV8.out.all ((one + two) % 4294967296) a0 a1 a2 ((a3 + one) % 4294967296) a4 a5 a6
           first
            | exact ⟨k + 1, by omega, by go_num, _, _, _, _, _, _, _, _, HRN.out, hall.1, HK8.out.trans hall.2 (fun i hi => Or.inl hi)⟩
            | ((repeat apply Exists.intro); refine ⟨?_, rfl⟩; exact ⟨k + 1, by omega, by go_num, _, _, _, _, _, _, _, _, HRN.out, hall.1, HK8.out.trans hall.2 (fun i hi => Or.inl hi)⟩)
          case measure => simp [intOf]; omega
        · obtain rfl : k = 64 := by omega
          have HMX : Hid (∀ j, j < 8 → (mixF [h0, h1, h2, h3, h4, h5, h6, h7] bs).getD j 0 = ([h0, h1, h2, h3, h4, h5, h6, h7].getD j 0 + [a0, a1, a2, a3, a4, a5, a6, a7].getD j 0) % 4294967296) := Lib.hid (by
           intro j hj
           unfold mixF
           rw [HR.out]
           match j, hj with
           | 0, _ => rfl
           | 1, _ => rfl
           | 2, _ => rfl
           | 3, _ => rfl
           | 4, _ => rfl
           | 5, _ => rfl
           | 6, _ => rfl
           | 7, _ => rfl)
          have HVA : Hid (ArrAt wr V 99 8 0 (fun j => [a0, a1, a2, a3, a4, a5, a6, a7].getD j 0)) := Lib.hid (V8.arr HV2.out)
          have HB4 : Hid (hb < V ∧ hb ≠ W) := Lib.hid (by have := HNE2.out; omega)
          have HHR := Lib.hid (HHV.out.same (HK3.out.block hb HHV.out.lt (by have := HB4.out; omega)))
          have HKR : Hid (Keeps (fun i => i = hb) w wr) := Lib.hid ((HKW.out.mono (S' := fun i => i = hb) (fun i hi h => absurd h (by have := HWe.out; omega))).trans HK3.out (fun i h => Or.inr (by have := HNE2.out; have := HWe.out; omega)))
          clear HV2 HK3 HA3 HIN HAV HHV HKV HKK HV6
          generalize mixF [h0, h1, h2, h3, h4, h5, h6, h7] bs = MX at *
          generalize [a0, a1, a2, a3, a4, a5, a6, a7] = As at *
          generalize [h0, h1, h2, h3, h4, h5, h6, h7] = Hs at *
          go_wp2_with fail
          go_loopw [17] (fun i wi => ∃ k : Nat, k ≤ 8 ∧ i = .int .i64 k ∧ ArrF wi hb TH 8 ho (fun j => if j < k then MX.getD j 0 else Hs.getD j 0) c0 ∧ Keeps (fun i => i = hb) wr wi) (fun i _ => 8 - (intOf i).toNat)
          case atStart => exact ⟨0, Nat.zero_le _, rfl, HHR.out.to (fun j _ => by simp), Keeps.refl _ _⟩
          case round =>
           obtain ⟨k, hk, rfl, ha, hkp⟩ := hrel
           have HHI2 := Lib.hid ha
           have HKI := Lib.hid hkp
           clear ha hkp
           by_cases hlt4 : k < 8
           · have j0 : (0 : Int) ≤ (k : Int) := by omega
             have j1 : (k : Int) < 8 := by omega
             obtain ⟨ch, fh⟩ := HHI2.out.cell k hlt4
             rw [if_neg (by omega)] at ch
             obtain ⟨cv, _⟩ := (HVA.out.same (HKI.out.block V HVA.out.lt (by have := HB4.out; omega))).cell k hlt4
             simp only [Nat.zero_add] at cv
             generalize hz1 : Hs.getD k 0 = z1 at *
             generalize hz2 : As.getD k 0 = z2 at *
             go_wp2_with fail
             refine wp_region_held_drew (S := fun w' => w'.cell? ⟨V, k, none⟩ = some (.int .u32 z2)) (by kernel_rfl) ?_ (fun hHeld => ?_)
             · exact cv
             refine tk 0 188 ?_
             simp only [lz]
             refine tk 1 189 ?_
             simp only [lz]
             refine tk 2 190 ?_
             simp only [lz]
             refine tk 4 192 ?_
             simp only [lz]
             refine tk 5 193 ?_
             simp only [lz]
             refine tk 6 194 ?_
             simp only [lz]
             have ch1 : wr.drew.cell? ⟨hb, ho + k, none⟩ = some (.int .u32 z1) := ch
             refine wpAnyH_ready (rs := [3]) (by kernel_rfl) (by simp) ?_
             refine AllReadyH.cons rfl (fun K hK => ?_) AllReadyH.nil
             go_simp
             go_wp2_with fail
             refine hK.out _ _ ?_ (fun hHeld => ?_)
             · exact cv
             clear hK K
             try simp only [Act.put, lg]
             try simp only [lz]
             refine tk 7 195 ?_
             simp only [lz]
             refine tk 8 196 ?_
             simp only [lz]
             have fh1 : wr.drew.frozen? ⟨hb, ho + k, none⟩ = false := fh
             refine wpAnyH_ready (rs := [9]) (by kernel_rfl) (by simp) ?_
             refine AllReadyH.cons rfl (fun K hK => ?_) AllReadyH.nil
             go_simp
             go_wp2_with fail
             refine hK.out _ _ ?_ (fun hHeld => ?_)
             · exact (World.cell?_setCell_other _ ⟨hb, ho + k, none⟩ ⟨V, k, none⟩ _ (by have := HB4.out; simp <;> omega)).trans cv
             clear hK K
             try simp only [Act.put, lg]
             try simp only [lz]
             refine wpAnyH_done (by kernel_rfl) ?_ _
             have HHN : Hid (ArrF ((wr.setCell ⟨hb, ho + k, none⟩ (.int .u32 ((z1 + z2) % 4294967296))).drew) hb TH 8 ho (fun j => if j < k + 1 then MX.getD j 0 else Hs.getD j 0) c0) := Lib.hid (((HHI2.out.set k hlt4 _).same rfl).to (fun j hj => by
              by_cases e : j = k
              · subst e
                rw [if_pos rfl, if_pos (by omega), HMX.out j hlt4, hz1, hz2]
              · rw [if_neg e]
                by_cases e2 : j < k
                · rw [if_pos e2, if_pos (by omega)]
                · rw [if_neg e2, if_neg (by omega)]))
             have HKN : Hid (Keeps (fun i => i = hb) _ ((wr.setCell ⟨hb, ho + k, none⟩ (.int .u32 ((z1 + z2) % 4294967296))).drew)) := Lib.hid (HKI.out.trans (((Keeps.refl (fun i => i = hb) wr).setCell (p := ⟨hb, ho + k, none⟩) (Or.inl rfl) _).drew) (fun i h => Or.inl h))
             clear hz1 hz2
             go_wp2_with fail
             go_roundw
             case rel => first | exact ⟨k + 1, by omega, by go_num, HHN.out, HKN.out⟩ | ((repeat apply Exists.intro); refine ⟨?_, rfl⟩; exact ⟨k + 1, by omega, by go_num, HHN.out, HKN.out⟩)
             case measure => simp [intOf]; omega
           · obtain rfl : k = 8 := by omega
             go_wp2
             go_end0
             exact ⟨rfl, HHI2.out.to (fun j hj => by rw [HMF.out, if_pos hj]), HKR.out.trans HKI.out (fun i h => Or.inl h)⟩
end Go.Proofs.YtkaciaehlibidaaGreat
