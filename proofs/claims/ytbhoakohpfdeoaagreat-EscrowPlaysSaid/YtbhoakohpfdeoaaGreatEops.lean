/- Law 10: rows of operations; Few. -/
import Derived.Test.YtbhoakohpfdeoaaGreatEs8
import Derived.Test.YtbhoakohpfdeoaaGreatFewl
import Derived.Test.YtbhoakohpfdeoaaGreatRowz
namespace Go.Proofs.YtbhoakohpfdeoaaGreat
open Go.ChangeShapes Go.WideShapes Go.ChangeAt Go.RowKit Go.Deep
set_option linter.unusedVariables false
set_option linter.unusedSimpArgs false

def OxsAt (w : World) (ao : Option Addr) (rs : List OX) : Prop :=
  rs = [] ∨ ∃ b off, ao = some ⟨b, off, none⟩ ∧ ∀ i (h : i < rs.length) j, j < 11 → w.cell? ⟨b, off + (i * 11 + j), none⟩ = some (rs[i].cells.getD j undef)
theorem OxsAt.below {w w' : World} {ao : Option Addr} {rs : List OX} (h : OxsAt w ao rs) (hb : Below w.heap.size w w') : OxsAt w' ao rs := by
  rcases h with h | ⟨b, off, h1, h2⟩
  · exact Or.inl h
  · exact Or.inr ⟨b, off, h1, fun i hi j hj => by
      have c := h2 i hi j hj
      rw [hb.cell (World.block_lt_of_cell? w _ c)]; exact c⟩
theorem OxsAt.at_ {w : World} {ao : Option Addr} {rs : List OX} (h : OxsAt w ao rs) (i : Nat) (hi : i < rs.length) : ∃ b off, ao = some ⟨b, off, none⟩ ∧
    w.cell? ⟨b, off + i * 11, none⟩ = some (.int .i64 rs[i].k) ∧ w.cell? ⟨b, off + i * 11 + 1, none⟩ = some (.int .i64 rs[i].who) ∧ w.cell? ⟨b, off + i * 11 + 2, none⟩ = some (.int .i64 rs[i].t) ∧ w.cell? ⟨b, off + i * 11 + 3, none⟩ = some (.int .i64 rs[i].a) ∧
    w.cell? ⟨b, off + i * 11 + 4, none⟩ = some (.int .i64 rs[i].n) ∧ w.cell? ⟨b, off + i * 11 + 5, none⟩ = some (.int .i64 rs[i].id) ∧ w.cell? ⟨b, off + i * 11 + 6, none⟩ = some (.int .i64 rs[i].d) ∧ w.cell? ⟨b, off + i * 11 + 7, none⟩ = some (.int .i64 rs[i].ck) ∧
    w.cell? ⟨b, off + i * 11 + 8, none⟩ = some (.string rs[i].h) ∧ w.cell? ⟨b, off + i * 11 + 9, none⟩ = some (.bool rs[i].kn) ∧ w.cell? ⟨b, off + i * 11 + 10, none⟩ = some (.int .u8 rs[i].s) := by
  rcases h with h | ⟨b, off, h1, h2⟩
  · rw [h] at hi; simp at hi
  · have g : ∀ j, j < 11 → w.cell? ⟨b, off + i * 11 + j, none⟩ = some (rs[i].cells.getD j undef) := fun j hj => by
      have := h2 i hi j hj
      rwa [← Nat.add_assoc] at this
    exact ⟨b, off, h1, g 0 (by omega), g 1 (by omega), g 2 (by omega), g 3 (by omega), g 4 (by omega), g 5 (by omega), g 6 (by omega), g 7 (by omega), g 8 (by omega), g 9 (by omega), g 10 (by omega)⟩
theorem ops10_of {H : Type} {enc : TypeId × Value → H} {W : World} {ao : Option Addr} {len cap : Nat} {d : DataW H} {p : List MemPlace}
    (h : DataW.Trod enc Tryz.prog W 0 (fun _ => true) true 23 (.slice ao len cap) d p) :
    ∃ rs : List OX, len = rs.length ∧ OxsAt W ao rs ∧ len ≤ cap ∧ cap ≤ maxLen := by
  obtain ⟨hl, hm, hx⟩ := rows_of Tryz.underlying23 Tryz.underlying40 (by kernel_rfl) (by kernel_rfl) (by decide) h
  rcases hx with h0 | ⟨b, off, rfl, hx⟩
  · exact ⟨[], by simpa using h0, Or.inl rfl, hl, hm⟩
  · obtain ⟨X, hX⟩ := choose_lt (α := OX) (n := len) (p := fun i o => ∀ j, j < 11 → W.cell? ⟨b, off + (i * 11 + j), none⟩ = some (o.cells.getD j undef)) (fun i hi => by
      obtain ⟨v0, x0, n0, c0, t0⟩ := hx i hi 0 _ rfl
      obtain ⟨v1, x1, n1, c1, t1⟩ := hx i hi 1 _ rfl
      obtain ⟨v2, x2, n2, c2, t2⟩ := hx i hi 2 _ rfl
      obtain ⟨v3, x3, n3, c3, t3⟩ := hx i hi 3 _ rfl
      obtain ⟨v4, x4, n4, c4, t4⟩ := hx i hi 4 _ rfl
      obtain ⟨v5, x5, n5, c5, t5⟩ := hx i hi 5 _ rfl
      obtain ⟨v6, x6, n6, c6, t6⟩ := hx i hi 6 _ rfl
      obtain ⟨v7, x7, n7, c7, t7⟩ := hx i hi 7 _ rfl
      obtain ⟨v8, x8, n8, c8, t8⟩ := hx i hi 8 _ rfl
      obtain ⟨v9, x9, n9, c9, t9⟩ := hx i hi 9 _ rfl
      obtain ⟨v10, x10, n10, c10, t10⟩ := hx i hi 10 _ rfl
      obtain ⟨y0, e0, _⟩ := DataW.trod_int Tryz.underlying3 t0
      obtain ⟨y1, e1, _⟩ := DataW.trod_int Tryz.underlying3 t1
      obtain ⟨y2, e2, _⟩ := DataW.trod_int Tryz.underlying3 t2
      obtain ⟨y3, e3, _⟩ := DataW.trod_int Tryz.underlying3 t3
      obtain ⟨y4, e4, _⟩ := DataW.trod_int Tryz.underlying3 t4
      obtain ⟨y5, e5, _⟩ := DataW.trod_int Tryz.underlying3 t5
      obtain ⟨y6, e6, _⟩ := DataW.trod_int Tryz.underlying3 t6
      obtain ⟨y7, e7, _⟩ := DataW.trod_int Tryz.underlying3 t7
      obtain ⟨y8, e8, _⟩ := DataW.trod_string Tryz.underlying9 t8
      obtain ⟨y9, e9, _⟩ := DataW.trod_bool Tryz.underlying4 t9
      obtain ⟨y10, e10, _⟩ := DataW.trod_int Tryz.underlying5 t10
      simp only [List.cons.injEq, and_true] at e0 e1 e2 e3 e4 e5 e6 e7 e8 e9 e10
      subst e0 e1 e2 e3 e4 e5 e6 e7 e8 e9 e10
      refine ⟨⟨y0, y1, y2, y3, y4, y5, y6, y7, y8, y9, y10⟩, fun j hj => ?_⟩
      match j, hj with
      | 0, _ => exact c0
      | 1, _ => exact c1
      | 2, _ => exact c2
      | 3, _ => exact c3
      | 4, _ => exact c4
      | 5, _ => exact c5
      | 6, _ => exact c6
      | 7, _ => exact c7
      | 8, _ => exact c8
      | 9, _ => exact c9
      | 10, _ => exact c10
      | j + 11, h => omega)
    refine ⟨(List.range len).map X, by simp, Or.inr ⟨b, off, rfl, fun i hi j hj => ?_⟩, hl, hm⟩
    simp at hi
    simp only [List.getElem_map, List.getElem_range]
    exact hX i hi j hj

set_option maxRecDepth 100000 in
set_option maxHeartbeats 1000000 in
theorem few10_any (ao : Option Addr) (bs : List OX) (n cap : Nat) (w : World) (hn : bs.length = n) (h : OxsAt w ao bs) (hcap : n ≤ cap) (hm : cap ≤ maxLen) :
    Calls Tryz.prog 6 #[.slice ao n cap] w fun e w' => e = .returned (.bool (fewB (bs.map (fun o => o.h.size)) 200 20000)) ∧ w = w' := by
  have HB := Lib.hid h
  have HN := Lib.hid hn
  obtain ⟨ls, hls⟩ : ∃ ls, ls = (bs.map (fun o => o.h.size)).map (fun x => min x (20000 + 1)) := ⟨_, rfl⟩
  have hll : ls.length = n := by rw [hls]; simp [hn]
  have hmax : ∀ k, (ls.take k).sum ≤ n * (20000 + 1) ∧ (ls.take k).sum ≤ k * (20000 + 1) := by
    intro k
    rw [hls, ← List.map_take]
    have := sum_min_bound ((bs.map (fun o => o.h.size)).take k) 20000
    have e : ((bs.map (fun o => o.h.size)).take k).length ≤ n := by simp [hn]; omega
    have e2 : ((bs.map (fun o => o.h.size)).take k).length ≤ k := by simp; omega
    exact ⟨Nat.le_trans this (Nat.mul_le_mul_right _ e), Nat.le_trans this (Nat.mul_le_mul_right _ e2)⟩
  have hb : ∀ k, k ≤ 200 → (ls.take k).sum ≤ 1000001000 := by
    intro k hk
    have := (hmax k).2
    have h3 : k * (20000 + 1) ≤ 1000 * 1000001 := Nat.mul_le_mul (by omega) (by omega)
    omega
  have HLS := Lib.hid hls
  have HLL := Lib.hid hll
  have HBD := Lib.hid hb
  unfold maxLen at hm
  clear h hn hls hll hmax hb
  go_enter Tryz.func6, Tryz.ntmps6
  go_wp2_with fail
  go_loop [3, 4] (fun t i => ∃ k : Nat, k ≤ n ∧ k ≤ 200 ∧ i = .int .i64 k ∧ t = .int .i64 ((ls.take k).sum : Nat)) (fun _ i => n - (intOf i).toNat)
  case atStart => exact ⟨0, Nat.zero_le _, Nat.zero_le _, rfl, rfl⟩
  case round =>
    obtain ⟨k, hk, hk2, rfl, rfl⟩ := hrel
    have hbd := HBD.out k hk2
    by_cases hlt : k < n
    · by_cases hlt2 : k < 200
      · have hkl : k < ls.length := by rw [HLL.out]; exact hlt
        have hkb : k < bs.length := by rw [HN.out]; exact hlt
        obtain ⟨b, off, ha, _, _, _, _, _, _, _, _, hc, _, _⟩ := HB.out.at_ k hkb
        have HS := Lib.hid (sum_take_succ ls k hkl)
        have hmin : ls[k] = min bs[k].h.size (20000 + 1) := by simp [HLS.out]
        have HMIN := Lib.hid hmin
        generalize ls[k] = m at *
        generalize bs[k].h = z at *
        clear hmin hkl
        subst ha
        generalize (ls.take k).sum = s at *
        have i1 : (k : Int) < (n : Int) := by omega
        have i2 : (k : Int) < (200 : Int) := by omega
        go_wp2
        go_round
        case rel => exact ⟨k + 1, by omega, by omega, by go_num, by rw [HS.out, HMIN.out]; congr 1; split <;> omega⟩
        case measure => simp [intOf]; omega
      · obtain rfl : 200 = k := by omega
        have HF := Lib.hid (show fewB (bs.map (fun o => o.h.size)) 200 20000 = false by simp [fewB, HN.out]; omega)
        have i1 : (200 : Int) < (n : Int) := by omega
        have i2 : ¬ (n : Int) ≤ (200 : Int) := by omega
        clear hlt2
        go_wp2
        go_ret
        exact ⟨ret_bool HF.out.symm, rfl⟩
    · obtain rfl : k = n := by omega
      have i2 : (k : Int) ≤ (200 : Int) := by omega
      have HT : Hid ((ls.take k).sum = (((bs.map (fun o => o.h.size)).take 200).map (fun x => min x (20000 + 1))).sum) := Lib.hid (by
        rw [List.take_of_length_le (by rw [HLL.out]; exact Nat.le_refl _), HLS.out, List.take_of_length_le (l := bs.map _) (by simp [HN.out]; omega)])
      by_cases hs : (ls.take k).sum ≤ 20000
      · have HF := Lib.hid (show fewB (bs.map (fun o => o.h.size)) 200 20000 = true by
          unfold fewB
          rw [← HT.out]
          simp [HN.out]; omega)
        generalize (ls.take k).sum = s at *
        have i3 : (s : Int) ≤ (20000 : Int) := by omega
        clear hlt
        go_wp2
        go_ret
        exact ⟨ret_bool HF.out.symm, rfl⟩
      · have HF := Lib.hid (show fewB (bs.map (fun o => o.h.size)) 200 20000 = false by
          unfold fewB
          rw [← HT.out]
          simp [HN.out]; omega)
        generalize (ls.take k).sum = s at *
        have i3 : ¬ (s : Int) ≤ (20000 : Int) := by omega
        clear hlt
        go_wp2
        go_ret
        exact ⟨ret_bool HF.out.symm, rfl⟩

end Go.Proofs.YtbhoakohpfdeoaaGreat
