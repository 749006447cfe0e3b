/- Law 10: secret, text, b2i. -/
import Derived.Test.YtbhoakohpfdeoaaGreatEs7
import Derived.Test.YtbhoakohpfdeoaaGreatShaR3
import Derived.Test.YtbhoakohpfdeoaaGreatShaQ
import Derived.Deep.OwnRows
namespace Go.Proofs.YtbhoakohpfdeoaaGreat
open Go.RowKit
set_option linter.unusedVariables false
set_option linter.unusedSimpArgs false

def RowL (w : World) (g : Nat) (L : List Int) : Prop := w.heap[g]? = some (.cells (L.map (Value.int .u8)).toArray 5 (0, 0))
theorem RowL.cell {w : World} {g : Nat} {L : List Int} (h : RowL w g L) (j : Nat) (hj : j < L.length) : w.cell? ⟨g, j, none⟩ = some (.int .u8 (L.getD j 0)) ∧ w.frozen? ⟨g, j, none⟩ = false := by
  refine ⟨(blk_cell h j).trans ?_, blk_frozen h j⟩
  simp [List.getD, hj]
theorem RowL.set {w : World} {g : Nat} {L : List Int} (h : RowL w g L) (i : Nat) (v : Int) : RowL (w.setCell ⟨g, i, none⟩ (.int .u8 v)) g (L.set i v) := by
  have h1 := blk_set h i (.int .u8 v)
  refine h1.trans ?_
  congr 2
  simp [List.map_set]
theorem RowL.ints {w : World} {g : Nat} {L : List Int} (h : RowL w g L) : IntsAt .u8 w (some ⟨g, 0, none⟩) L :=
  Or.inr ⟨g, 0, rfl, fun i hi => by rw [Nat.zero_add]; exact (h.cell i hi).1⟩
theorem RowL.made (w : World) (n : Nat) : RowL (w.alloc (.cells (madeCells #[.int .u8 0] n) 5)) w.heap.size (List.replicate n 0) := by
  have h1 := heap_alloc_new w (.cells (madeCells #[.int .u8 0] n) 5)
  refine h1.trans ?_
  congr 2
  rw [← Array.toList_inj, toList_madeCells_one]
  simp
/-- A secret: 32 bytes alike. -/
def secS (s : Int) : ByteArray := strOfNums (List.replicate 32 s)
def secL (s : Int) (k : Nat) : List Int := List.replicate k s ++ List.replicate (32 - k) 0
theorem secL_step (s : Int) (k : Nat) (h : k < 32) : (secL s k).set k s = secL s (k + 1) := by
  unfold secL
  obtain ⟨j, hj⟩ : ∃ j, 32 - k = j + 1 := ⟨31 - k, by omega⟩
  have hj2 : 32 - (k + 1) = j := by omega
  rw [hj, hj2, List.set_append_right _ _ (by simp)]
  simp only [List.length_replicate, Nat.sub_self, List.replicate_succ, List.set_cons_zero]
  rw [show s :: List.replicate j 0 = [s] ++ List.replicate j 0 from rfl, ← List.append_assoc, ← List.replicate_succ', List.replicate_succ]
theorem secL_len (s : Int) (k : Nat) (h : k ≤ 32) : (secL s k).length = 32 := by unfold secL; simp; omega
theorem strOf_size (l : List Int) : (strOfNums l).size = l.length := by simp [strOfNums, ByteArray.size]
theorem secS_size (s : Int) : (secS s).size = 32 := by unfold secS; rw [strOf_size, List.length_replicate]
theorem shaS_size (s : ByteArray) : (shaS s).size = 32 := by unfold shaS; rw [strOf_size, shaF_len]

set_option maxRecDepth 100000 in
set_option maxHeartbeats 2000000 in
theorem secret_any (s : Int) (w : World) :
    Calls Tryz.prog 26 #[.int .u8 s] w fun e w' => e = .returned (.string (secS s)) ∧ Below w.heap.size w w' := by
  have hmk : ∀ w : World, (Instr.makeSlice 68 (.int .i64 32) (.int .i64 32)).run Tryz.prog w = .ok (.slice (some ⟨w.heap.size, 0, none⟩) 32 32) (w.alloc (.cells (madeCells #[.int .u8 0] 32) 5)) := fun w => run_make_row' (P := Tryz.prog) 68 5 (.int .u8 0) 1 Tryz.underlying68 Try_infoU8 rfl .i64 .i64 32 (by omega) (by omega) w
  go_enter Tryz.func26, Tryz.ntmps26
  go_upto_region 2 with fail
  obtain ⟨w1, hw1⟩ : ∃ w1, w1 = w.alloc (.cells (madeCells #[.int .u8 0] 32) 5) := ⟨_, rfl⟩
  have HR1 : Hid (RowL w1 w.heap.size (secL s 0)) := Lib.hid (by rw [hw1]; exact RowL.made w 32)
  have HB1 : Hid (Below w.heap.size w w1) := Lib.hid (by rw [hw1]; exact (Below.refl _ _).alloc (Nat.le_refl _) _)
  rw [← hw1]
  clear hw1 hmk
  go_wp2_with fail
  go_loopw [4] (fun i wr => ∃ k : Nat, k ≤ 32 ∧ i = .int .i64 k ∧ RowL wr w.heap.size (secL s k) ∧ Below w.heap.size w wr) (fun i _ => 32 - (intOf i).toNat)
  case atStart => exact ⟨0, by omega, rfl, HR1.out, HB1.out⟩
  case round =>
    obtain ⟨k, hk, rfl, hr, hb⟩ := hrel
    have HR := Lib.hid hr
    have HB := Lib.hid hb
    clear hr hb
    by_cases hlt : k < 32
    · obtain ⟨cc, cf⟩ := HR.out.cell k (by rw [secL_len s k hk]; exact hlt)
      have HS := Lib.hid (HR.out.set k s)
      rw [secL_step s k hlt] at HS
      have b0 : (0 : Int) ≤ (k : Int) := by omega
      have b1 : (k : Int) < 32 := by omega
      have HB2 : Hid (Below w.heap.size w (wr.setCell ⟨w.heap.size, k, none⟩ (.int .u8 s))) := Lib.hid (below_fp HB.out ((Keeps.refl (fun i => i = w.heap.size) wr).setCell (p := ⟨w.heap.size, k, none⟩) (Or.inl rfl) _) (fun i hi => by omega))
      have hke : ((k + 1 : Nat) : Int) = (k : Int) + 1 := by omega
      go_wp2_with fail
      refine ⟨⟨k + 1, by omega, by rw [hke], HS.out, HB2.out⟩, ?_⟩
      simp only [intOf]
      omega
    · obtain rfl : k = 32 := by omega
      have hcv := conv_u8 (P := Tryz.prog) (w := wr) 32 68 5 9 Tryz.underlying68 Tryz.underlying5 Tryz.underlying9 HR.out.ints (secL_len s 32 (by omega))
      have hss : strOfNums (secL s 32) = secS s := rfl
      rw [hss] at hcv
      go_wp2
      go_ret
      exact ⟨rfl, HB.out⟩

structure OX where
  k : Int
  who : Int
  t : Int
  a : Int
  n : Int
  id : Int
  d : Int
  ck : Int
  h : ByteArray
  kn : Bool
  s : Int
instance : Inhabited OX := ⟨⟨0, 0, 0, 0, 0, 0, 0, 0, ⟨#[]⟩, false, 0⟩⟩
def OX.cells (o : OX) : Array Value := #[.int .i64 o.k, .int .i64 o.who, .int .i64 o.t, .int .i64 o.a, .int .i64 o.n, .int .i64 o.id, .int .i64 o.d, .int .i64 o.ck, .string o.h, .bool o.kn, .int .u8 o.s]
def textX (o : OX) : ByteArray := if o.kn = true then (if o.k = 0 then shaS (secS o.s) else secS o.s) else o.h
set_option maxRecDepth 100000 in
set_option maxHeartbeats 2000000 in
theorem text_any (o : OX) (w : World) :
    Calls Tryz.prog 11 #[.agg o.cells] w fun e w' => e = .returned (.string (textX o)) ∧ Below w.heap.size w w' := by
  obtain ⟨w1, hw1⟩ : ∃ w1, w1 = w.alloc (.cells o.cells 40) := ⟨_, rfl⟩
  have hx : w1.heap[w.heap.size]? = some (.cells o.cells 40 (0, 0)) := by rw [hw1]; exact heap_alloc_new _ _
  have HB1 : Hid (Below w.heap.size w w1) := Lib.hid (by rw [hw1]; exact (Below.refl _ _).alloc (Nat.le_refl _) _)
  have c0 := blk_cell hx 0
  have c8 := blk_cell hx 8
  have c9 := blk_cell hx 9
  have c10 := blk_cell hx 10
  have HW1 := Lib.hid hw1
  clear hx hw1
  unfold OX.cells at *
  simp only [List.getElem?_toArray, List.getElem?_cons_zero, List.getElem?_cons_succ] at c0 c8 c9 c10
  have HTX : Hid (textX o = if o.kn = true then (if o.k = 0 then shaS (secS o.s) else secS o.s) else o.h) := Lib.hid rfl
  generalize textX o = TX at *
  obtain ⟨k, who, t, a, n, id, d, ck, h, kn, s⟩ := o
  dsimp only at *
  cases kn
  case false =>
    rw [if_neg (by decide)] at HTX
    go_enter Tryz.func11, Tryz.ntmps11
    go_upto_region 1 with fail
    rw [← HW1.out]
    go_wp2
    go_ret
    exact ⟨by rw [HTX.out]; rfl, HB1.out⟩
  rw [if_pos rfl] at HTX
  by_cases hk : k = 0
  case neg =>
    rw [if_neg hk] at HTX
    go_enter Tryz.func11, Tryz.ntmps11
    go_upto_region 1 with fail
    rw [← HW1.out]
    have hb : (k == 0) = false := by simp [hk]
    clear hk
    go_wp2_with fail
    refine (secret_any s w1).mono ?_
    rintro e w2 ⟨rfl, hb2⟩
    have HB2 := Lib.hid (below_step HB1.out hb2)
    clear hb2
    go_wp2
    go_ret
    exact ⟨by rw [HTX.out]; rfl, HB2.out⟩
  rw [if_pos hk] at HTX
  subst hk
  have kc := fun (w : World) (s : ByteArray) => Lib.run_convert_string_bytes (P := Tryz.prog) w 9 68 5 s Tryz.underlying9 Tryz.underlying68 Tryz.underlying5
  go_enter Tryz.func11, Tryz.ntmps11
  go_upto_region 1 with fail
  rw [← HW1.out]
  go_wp2_with fail
  refine (secret_any s w1).mono ?_
  rintro e w2 ⟨rfl, hb2⟩
  have HB2 := Lib.hid (below_step HB1.out hb2)
  clear hb2
  obtain ⟨w3, hw3⟩ : ∃ w3, w3 = Lib.bytesWorld w2 5 (secS s) := ⟨_, rfl⟩
  have HB3 : Hid (Below w2.heap.size w2 w3) := Lib.hid (by rw [hw3]; exact bytes_below w2 5 (secS s))
  have HI3 : Hid (IntsAt .u8 w3 (some ⟨w2.heap.size, 0, none⟩) (strNums (secS s))) := Lib.hid (by rw [hw3]; exact bytes_ints w2 5 (secS s))
  have HHA := Lib.hid (fun c => rhash_any (some ⟨w2.heap.size, 0, none⟩) (strNums (secS s)) (secS s).size c w3 (strNums_length _) HI3.out (strNums_in _) (by rw [secS_size]; omega))
  have HW3 := Lib.hid hw3
  clear hw3
  go_wp2_with fail
  rw [← HW3.out]
  refine (HHA.out _).mono ?_
  rintro e w4 ⟨a4, c4, rfl, hr4⟩
  have HB4 := Lib.hid (below_step (below_step HB2.out HB3.out) hr4.2.1)
  have hcv := conv_u8 (P := Tryz.prog) (w := w4) c4 68 5 9 Tryz.underlying68 Tryz.underlying5 Tryz.underlying9 (owns_at hr4.1).2.1 rfl
  have hsS : strOfNums (shaF (strNums (secS s))) = shaS (secS s) := rfl
  rw [hsS] at hcv
  clear hr4
  go_wp2
  go_ret
  exact ⟨by rw [HTX.out]; rfl, HB4.out⟩


theorem EB.from_ {S : Nat → Prop} {W0 W w : World} {n m : Nat} {b : Nat → Nat → Int} {l : List XR} {T : Nat → Int} {B tb q : Nat} (h : EB S W w n m b l T B tb q) (hb : Below W0.heap.size W0 W) : EB S W0 w n m b l T B tb q := by
  obtain ⟨Sp, v, h1, h2, h3, h4, h5, h6, h7⟩ := h
  exact ⟨Sp, v, h1, h2, h3, h4, below_step hb h5, h6, fun i hi => Nat.le_trans hb.size (h7 i hi)⟩

set_option maxRecDepth 100000 in
set_option maxHeartbeats 1000000 in
theorem made_no (ao : Option Addr) (bs : List ISl) (n cap : Nat) (w : World) (hn : bs.length = n) (h : IntsList w ao bs) (hm : mayF bs = false) :
    Calls Tryz.prog 8 #[.slice ao n cap] w fun e w' => e = .returned (.pointer none) ∧ Below w.heap.size w w' := by
  have HN := Lib.hid (new_no ao bs n cap w hn h hm)
  clear hn h hm
  go_enter Tryz.func8, Tryz.ntmps8
  go_wp2_with fail
  refine HN.out.mono ?_
  rintro e w1 ⟨rfl, hb⟩
  have HB := Lib.hid hb
  clear hb
  go_wp2
  go_ret
  exact ⟨rfl, HB.out⟩
set_option maxRecDepth 100000 in
set_option maxHeartbeats 1000000 in
theorem made_yes (ao : Option Addr) (bs : List ISl) (n cap m : Nat) (w : World) (hn : bs.length = n) (h : IntsList w ao bs) (hm : mayF bs = true) (hm2 : (bs.getD 0 default).zs.length = m) :
    Calls Tryz.prog 8 #[.slice ao n cap] w fun e w' => ∃ S B tb q, e = .returned (.pointer (some ⟨B, 0, none⟩)) ∧ EB S w w' n m (balOf bs) [] (fun j => tot (balOf bs) j n) B tb q := by
  have HN := Lib.hid (new_yes ao bs n cap m w hn h hm hm2)
  have HG : Hid (Good n m (balOf bs)) := Lib.hid (by have := (mayF_good hm).1; rw [hm2, hn] at this; exact this)
  clear hn h hm hm2
  generalize balOf bs = b0 at *
  go_enter Tryz.func8, Tryz.ntmps8
  go_wp2_with fail
  refine HN.out.mono ?_
  rintro e w2 ⟨q, rfl, hq⟩
  have HQ := Lib.hid hq
  clear hq
  go_wp2_with fail
  refine (newTable_any w2).mono ?_
  rintro e w3 ⟨rfl, ht, hb⟩
  have HT := Lib.hid ht
  have HB3 := Lib.hid hb
  obtain ⟨tb, htb⟩ : ∃ tb, tb = w2.heap.size := ⟨_, rfl⟩
  rw [← htb] at HT ⊢
  have HTB := Lib.hid htb
  clear ht hb htb
  go_wp2_with fail
  refine (book_new tb q n m b0 _ w3 (HQ.out.1.below HB3.out)).mono ?_
  rintro e w4 ⟨rfl, hk, hb⟩
  have HK := Lib.hid hk
  have HB4 := Lib.hid hb
  have HL3 := Lib.hid HB3.out.size
  obtain ⟨B, hB⟩ : ∃ B, B = w3.heap.size := ⟨_, rfl⟩
  rw [← hB] at HK ⊢
  have HBB := Lib.hid hB
  clear hk hb hB
  go_wp2
  go_ret
  refine ⟨_, B, tb, q, rfl, (fun k => w.heap.size ≤ k ∧ k < w2.heap.size), .slice none 0 0, HK.out, fun h => by have := HTB.out; omega, HT.out.below HB4.out, ⟨HG.out, fun x hx => by simp at hx, fun j hj => by show tot b0 j n + 0 = _; omega, fun j hj => HG.out.sum j hj, by simp⟩, below_step (below_step HQ.out.2 HB3.out) HB4.out, fun i => Iff.rfl, ?_⟩
  have hs := HQ.out.2.size
  have hs3 := HL3.out
  have e1 := HTB.out
  have e2 := HBB.out
  rintro i ((rfl | hi | hi) | rfl)
  · omega
  · cases hi
  · exact hi.1
  · omega
end Go.Proofs.YtbhoakohpfdeoaaGreat
