/- Contract of cflref9.EncodeBatch. -/
import Derived.Test.YtadejcpifabpoaaRefq
import Derived.Test.YtadejcpifabpoaaRsz
namespace Go.Proofs.Ytadejcpifabpoaa
open Go.RowKit
set_option linter.unusedVariables false
set_option linter.unusedSimpArgs false

def REncPost (w : World) (r : List Int × Int) (e : Ending) (w' : World) : Prop := ∃ ao cap, e = .returned (.tuple #[.slice ao r.1.length cap, .int .i64 r.2]) ∧ IntsAt .u8 w' ao r.1 ∧ Below w.heap.size w w'
def RE (W w : World) (p : Nat) (bs : List Int) : Prop := ∃ v, EncAt 105 w p v bs 0 ∧ Below W.heap.size W w ∧ W.heap.size ≤ p ∧ ∀ g, v.ownBlock = some g → W.heap.size ≤ g
theorem RE.of_post {W w w' : World} {p : Nat} {v : Value} {bs : List Int} (hb : Below W.heap.size W w) (hp : W.heap.size ≤ p) (hf : ∀ g, v.ownBlock = some g → W.heap.size ≤ g) (h : EncPost 105 w p v bs 0 w') : RE W w' p bs := by
  obtain ⟨v2, h1, h2, h3⟩ := h
  refine ⟨v2, h1, hb.trans (h2.below (B := W.heap.size) hb.size (fun i hi => ?_)), hp, fun g hg => ?_⟩
  · rcases hi with rfl | hi
    · omega
    · have := hf i hi; omega
  · rcases h3 g hg with h | h
    · exact hf g h
    · have := hb.size; omega
theorem enc_new (w : World) : EncAt 105 (w.alloc (.cells #[.slice none 0 0, .int .i64 0] 105)) w.heap.size (.slice none 0 0) [] 0 :=
  ⟨heap_alloc_new _ _, World.ownsRow_nil _ _ _ _, fun e => nomatch e⟩
theorem RE.new {W w : World} (hb : Below W.heap.size W w) : RE W (w.alloc (.cells #[.slice none 0 0, .int .i64 0] 105)) w.heap.size [] :=
  ⟨_, enc_new w, hb.alloc hb.size _, hb.size, fun g hg => nomatch hg⟩
theorem RE.base {W w : World} {p : Nat} {bs : List Int} (h : RE W w p bs) : Below W.heap.size W w := by obtain ⟨_, _, h, _⟩ := h; exact h
theorem RE.num {W w : World} {p : Nat} {bs : List Int} (h : RE W w p bs) (n : Int) (s : Int) (hs : s = 1 ∨ s = 2 ∨ s = 8) (hf : fitsB n s = true) (hlen : bs.length + 8 ≤ 140737488355328) :
    Calls Try.prog 70 #[.pointer (some ⟨p, 0, none⟩), .int .i64 n, .int .i64 s] w fun en w' => en = .returned (.tuple #[]) ∧ RE W w' p (bs ++ putB n s.toNat) := by
  obtain ⟨v, h1, h2, h3, h4⟩ := h
  refine (refnum_any p v bs 0 n s w h1 hlen).mono ?_
  rintro en w' ⟨rfl, hp⟩
  have e : refNum bs 0 n s = (bs ++ putB n s.toNat, 0) := by unfold refNum; rw [if_pos hf]
  rw [e] at hp
  exact ⟨rfl, RE.of_post h2 h3 h4 hp⟩
theorem RE.req {W w : World} {p : Nat} {bs : List Int} (h : RE W w p bs) (r : RQ) (ho : okE false r.ev = true) (hlen : bs.length + 100 ≤ 140737488355328) :
    Calls Try.prog 71 #[.pointer (some ⟨p, 0, none⟩), .agg r.cells] w fun en w' => en = .returned (.tuple #[]) ∧ RE W w' p (bs ++ chunkE false r.ev) := by
  obtain ⟨v, h1, h2, h3, h4⟩ := h
  refine (putReq p v bs r w h1 ho hlen).mono ?_
  rintro en w' ⟨rfl, hp⟩
  exact ⟨rfl, RE.of_post h2 h3 h4 hp⟩
theorem RE.done {W w : World} {p : Nat} {bs : List Int} (h : RE W w p bs) :
    Calls Try.prog 72 #[.pointer (some ⟨p, 0, none⟩)] w fun en w' => (∃ ao cap, en = .returned (.tuple #[.slice ao bs.length cap, .int .i64 0]) ∧ IntsAt .u8 w' ao bs) ∧ Below W.heap.size W w' := by
  obtain ⟨v, h1, h2, h3, h4⟩ := h
  obtain ⟨ao, cap, rfl⟩ := enc_form h1
  refine (refdone_any p ao cap bs 0 w h1).mono ?_
  rintro en w' ⟨⟨ao2, cap2, rfl, hi⟩, hb⟩
  have e : doneB bs 0 = bs := by simp [doneB]
  rw [e] at hi ⊢
  exact ⟨⟨ao2, cap2, rfl, ints_below hi hb⟩, h2.trans (hb.mono h2.size)⟩

def encBase (seen : Int) (n : Nat) : Bool := decide (0 ≤ seen) && decide (seen ≤ 65535) && decide (n ≤ 64)
theorem encBase_ok (seen : Int) (rs : List RQ) : encOK seen rs = (encBase seen rs.length && rs.all (fun r => okE false r.ev)) := by
  unfold encOK encBase
  rw [List.all_map, Bool.eq_iff_iff]
  simp only [Bool.and_eq_true, decide_eq_true_eq, ← id_fits]
  constructor
  · rintro ⟨⟨a, b, c⟩, d⟩; exact ⟨⟨⟨b, c⟩, a⟩, d⟩
  · rintro ⟨⟨⟨b, c⟩, a⟩, d⟩; exact ⟨⟨a, b, c⟩, d⟩
theorem all_take {α : Type} (f : α → Bool) (l : List α) (k : Nat) (hk : k < l.length) : (l.take (k + 1)).all f = ((l.take k).all f && f l[k]) := by
  rw [List.take_succ_eq_append_getElem hk, List.all_append]; simp
theorem all_take_false {α : Type} (f : α → Bool) (l : List α) (k : Nat) (h : (l.take k).all f = false) : l.all f = false := by
  cases hl : l.all f
  · rfl
  · rw [List.all_eq_true] at hl
    have : (l.take k).all f = true := List.all_eq_true.2 (fun x hx => hl x (List.mem_of_mem_take hx))
    rw [this] at h; cases h
theorem chunks_len (rs : List RQ) (ev : Bool) (k : Nat) : ((rs.take k).flatMap (fun r => chunkE false r.ev)).length ≤ ((rs.flatMap (fun r => chunkE false r.ev)).length) := by
  have h := List.take_append_drop k rs
  have h2 := congrArg (fun l => (l.flatMap (fun r : RQ => chunkE false r.ev)).length) h
  simp only [List.flatMap_append, List.length_append] at h2
  omega

set_option maxRecDepth 100000 in
set_option maxHeartbeats 4000000 in
theorem rencodeBatch (seen : Int) (ao : Option Addr) (rs : List RQ) (n cap : Nat) (w : World) (hn : rs.length = n) (h : RqsAt w ao rs) :
    Calls Try.prog 40 #[.agg #[.int .i64 seen, .slice ao n cap]] w (REncPost w (encF seen rs)) := by
  obtain ⟨w1, hw1⟩ : ∃ w1, w1 = w.alloc (.cells #[.int .i64 seen, .slice ao n cap] 46) := ⟨_, rfl⟩
  have HK : Hid (∀ w', Below w1.heap.size w1 w' → w'.cell? ⟨w.heap.size, 0, none⟩ = some (.int .i64 seen) ∧ w'.cell? ⟨w.heap.size, 1, none⟩ = some (.slice ao n cap) ∧ RqsAt w' ao rs ∧ Below w.heap.size w w') := Lib.hid (by
    intro w' hb
    have hx : w1.heap[w.heap.size]? = some (.cells #[.int .i64 seen, .slice ao n cap] 46 (0, 0)) := by rw [hw1]; exact heap_alloc_new w _
    have hx' := (hb.block _ (blk_lt hx)).trans hx
    have h1 : Below w.heap.size w w1 := by rw [hw1]; exact (Below.refl _ _).alloc (Nat.le_refl _) _
    exact ⟨blk_cell hx' 0, blk_cell hx' 1, (h.below h1).below hb, h1.trans (hb.mono h1.size)⟩)
  have HN := Lib.hid hn
  have HW1 := Lib.hid hw1
  have HF := Lib.hid (encF_eq seen rs)
  have HBK : Hid (encOK seen rs = (encBase seen n && rs.all (fun r => okE false r.ev))) := Lib.hid (by rw [encBase_ok, hn])
  clear h hn hw1
  go_enter Try.func40, Try.ntmps40
  go_upto_region 1 with fail
  rw [← HW1.out]
  obtain ⟨x0, x1, _, _⟩ := HK.out w1 (Below.refl _ _)
  go_cut [4] (fun s wx => s = .bool (encBase seen n) ∧ wx = w1)
  case first =>
    cases q0 : decide (0 ≤ seen)
    case' false =>
      have hb := Lib.hid (show encBase seen n = false by simp [encBase, q0])
      simp only [decide_eq_false_iff_not] at q0
      go_wp2_with fail
      go_meet
      case rel => exact ⟨by rw [hb.out], rfl⟩
    cases q1 : decide (seen ≤ 65535)
    case' false =>
      have hb := Lib.hid (show encBase seen n = false by simp [encBase, q1])
      simp only [decide_eq_false_iff_not] at q1
      simp only [decide_eq_true_eq] at q0
      go_wp2_with fail
      go_meet
      case rel => exact ⟨by rw [hb.out], rfl⟩
    have hb : Hid (encBase seen n = decide ((n : Int) ≤ 64)) := Lib.hid (by
      unfold encBase
      rw [q0, q1, Bool.eq_iff_iff]
      simp
      omega)
    simp only [decide_eq_true_eq] at q0 q1
    go_wp2_with fail
    go_meet
    case rel => exact ⟨by rw [hb.out], rfl⟩
  case rest =>
    obtain ⟨rfl, rfl⟩ := hcut
    have HBN : Hid (encBase seen n = true → n ≤ 64) := Lib.hid (fun h => by unfold encBase at h; rw [Bool.and_eq_true, decide_eq_true_eq] at h; exact h.2)
    generalize hB : encBase seen n = B at *
    clear x0 x1 hB
    go_wp2_with fail
    obtain ⟨w0, rfl⟩ : ∃ w0 : World, w0 = wc := ⟨_, rfl⟩
    go_loopw [4, 5] (fun ok i wr => ∃ k : Nat, k ≤ n ∧ ok = .bool (B && (rs.take k).all (fun r => okE false r.ev)) ∧ i = .int .i64 k ∧ Below w0.heap.size w0 wr) (fun _ i _ => n - (intOf i).toNat)
    case atStart => exact ⟨0, Nat.zero_le _, by simp, rfl, Below.refl _ _⟩
    case round =>
      obtain ⟨k, hk, rfl, rfl, hbel⟩ := hrel
      have HBE := Lib.hid hbel
      obtain ⟨x0, x1, hr, _⟩ := HK.out wr hbel
      have HR := Lib.hid hr
      clear hbel hr
      cases hok : (B && (rs.take k).all (fun r => okE false r.ev))
      case' false =>
        have HZ : Hid (encF seen rs = ([], 1)) := Lib.hid (by
          rw [HF.out, HBK.out]
          cases hB : B
          · rfl
          · rw [hB, Bool.true_and] at hok
            rw [all_take_false _ rs k hok]; rfl)
        have HBS := Lib.hid ((HK.out wr HBE.out).2.2.2)
        clear hok
        go_wp2
        go_ret2
        rw [HZ.out]
        exact ⟨none, 0, rfl, Or.inl rfl, HBS.out⟩
      have h64 : n ≤ 64 := HBN.out (by rw [Bool.and_eq_true] at hok; exact hok.1)
      by_cases hlt : k < n
      · have hkb : k < rs.length := by rw [HN.out]; exact hlt
        have HT := Lib.hid (all_take (fun r : RQ => okE false r.ev) rs k hkb)
        have HOK := Lib.hid hok
        obtain ⟨b, off, rfl, hat⟩ := rq_cells HR.out k hkb
        obtain ⟨c0, c1, c2, c3, c4, c5, c6, c7⟩ := hat.all
        have HM := Lib.hid (mayReq rs[k] wr)
        rw [mayRQ_ok] at HM
        unfold RQ.cells at HM
        generalize rs[k] = r at *
        have j0 : (0 : Int) ≤ (k : Int) := by omega
        have j1 : (k : Int) < (n : Int) := by omega
        clear hat hok
        go_wp2_with fail
        refine HM.out.mono ?_
        rintro e w2 ⟨rfl, hb2⟩
        have HB2 := Lib.hid (HBE.out.trans (hb2.mono HBE.out.size))
        clear hb2
        go_wp2
        go_roundw
        case rel =>
          refine ⟨k + 1, by omega, ?_, by go_num, HB2.out⟩
          have h := HOK.out
          rw [HT.out, ← Bool.and_assoc, h, Bool.true_and]
        case measure => simp [intOf]; omega
      · obtain rfl : k = n := by omega
        have HOK2 : Hid (encF seen rs = (encB seen rs, 0) ∧ encOK seen rs = true) := Lib.hid (by
          have h := HBK.out
          rw [List.take_of_length_le (by rw [HN.out]; exact Nat.le_refl _)] at hok
          rw [hok] at h
          refine ⟨by rw [HF.out, h]; rfl, h⟩)
        have HALL : Hid ((k ≤ 64 ∧ fitsB seen 2 = true) ∧ ∀ r ∈ rs, okE false r.ev = true) := Lib.hid (by
          have h := HOK2.out.2
          unfold encOK at h
          rw [Bool.and_eq_true, Bool.and_eq_true, decide_eq_true_eq, List.all_map, List.all_eq_true, HN.out] at h
          exact h)
        have HEB : Hid (encB seen rs = putB seen 2 ++ putB k 1 ++ (rs.take k).flatMap (fun r => chunkE false r.ev)) := Lib.hid (by
          unfold encB
          rw [HN.out, List.take_of_length_le (by rw [HN.out]; exact Nat.le_refl _), List.flatMap_map, List.append_assoc])
        have HLEN : Hid (∀ j, ((rs.take j).flatMap (fun r => chunkE false r.ev)).length ≤ 4000) := Lib.hid (fun j => by
          have h1 := chunks_len rs false j
          have e : ∀ l : List RQ, (∀ r ∈ l, okE false r.ev = true) → (l.flatMap (fun r => chunkE false r.ev)).length ≤ 51 * l.length := by
            intro l
            induction l with
            | nil => intro _; simp
            | cons r l ih =>
              intro hl
              have h2 := ih (fun q hq => hl q (List.mem_cons_of_mem _ hq))
              have h3 := chunk_len r (hl r List.mem_cons_self)
              have h4 := rqLen_le r
              rw [List.flatMap_cons, List.length_append, List.length_cons]
              omega
          have h2 := e rs HALL.out.2
          have h3 := HN.out
          have h4 := HALL.out.1.1
          omega)
        clear hok hlt HBK HF
        obtain ⟨wq, rfl⟩ : ∃ wq : World, wq = wr := ⟨_, rfl⟩
        have HK2 : Hid (∀ w', Below wq.heap.size wq w' → w'.cell? ⟨w.heap.size, 0, none⟩ = some (.int .i64 seen) ∧ w'.cell? ⟨w.heap.size, 1, none⟩ = some (.slice ao k cap) ∧ RqsAt w' ao rs ∧ Below w.heap.size w w') := Lib.hid (fun w' h => HK.out w' (HBE.out.trans (h.mono HBE.out.size)))
        have HR0 := Lib.hid (RE.new (Below.refl wq.heap.size wq))
        clear HK
        go_upto_region 9 with fail
        obtain ⟨wa, hwa⟩ : ∃ wa, wa = wq.alloc (.cells #[.slice none 0 0, .int .i64 0] 105) := ⟨_, rfl⟩
        rw [← hwa] at HR0 ⊢
        obtain ⟨y0, y1, _, _⟩ := HK2.out wa HR0.out.base
        clear hwa x0 x1
        go_wp2_with fail
        refine (HR0.out.num seen 2 (by omega) HALL.out.1.2 (by simp)).mono ?_
        rintro e wb ⟨rfl, hrb⟩
        have HRB := Lib.hid hrb
        clear hrb y0 y1
        obtain ⟨y0, y1, _, _⟩ := HK2.out wb HRB.out.base
        go_wp2_with fail
        refine (HRB.out.num k 1 (by omega) (fits_len1 k (by have := HALL.out.1.1; omega)) (by simp [putB_length])).mono ?_
        rintro e wc ⟨rfl, hrc⟩
        have HRC := Lib.hid hrc
        clear hrc y0 y1
        go_wp2_with fail
        go_loopw [7] (fun i wr => ∃ j : Nat, j ≤ k ∧ i = .int .i64 j ∧ RE wq wr wq.heap.size (putB seen 2 ++ putB k 1 ++ (rs.take j).flatMap (fun r => chunkE false r.ev))) (fun i _ => k - (intOf i).toNat)
        case atStart => exact ⟨0, Nat.zero_le _, rfl, by simpa using HRC.out⟩
        case round =>
          obtain ⟨j, hj, rfl, hre⟩ := hrel
          have h64 : k ≤ 64 := HALL.out.1.1
          have HRE := Lib.hid hre
          obtain ⟨y0, y1, hr, _⟩ := HK2.out wr hre.base
          clear hre
          by_cases hlt : j < k
          · have hjb : j < rs.length := by rw [HN.out]; exact hlt
            obtain ⟨b, off, rfl, hat⟩ := rq_cells hr j hjb
            obtain ⟨c0, c1, c2, c3, c4, c5, c6, c7⟩ := hat.all
            have HS : Hid ((rs.take (j + 1)).flatMap (fun r => chunkE false r.ev) = (rs.take j).flatMap (fun r => chunkE false r.ev) ++ chunkE false rs[j].ev) := Lib.hid (by rw [List.take_succ_eq_append_getElem hjb, List.flatMap_append]; simp)
            have HPR := Lib.hid (HRE.out.req rs[j] (HALL.out.2 _ (List.getElem_mem hjb)) (by have := HLEN.out j; rw [List.length_append, List.length_append, putB_length, putB_length]; omega))
            generalize rs[j] = r at *
            unfold RQ.cells at HPR
            have j0 : (0 : Int) ≤ (j : Int) := by omega
            have j1 : (j : Int) < (k : Int) := by omega
            clear hat hr
            go_wp2_with fail
            refine HPR.out.mono ?_
            rintro e w2 ⟨rfl, h2⟩
            have H2 := Lib.hid h2
            clear h2
            go_wp2
            go_roundw
            case rel => exact ⟨j + 1, by omega, by go_num, by rw [HS.out, ← List.append_assoc]; exact H2.out⟩
            case measure => simp [intOf]; omega
          · obtain rfl : j = k := by omega
            have HD := Lib.hid HRE.out.done
            generalize putB seen 2 ++ putB j 1 ++ (rs.take j).flatMap (fun r => chunkE false r.ev) = T at *
            clear hr hlt
            go_wp2_with fail
            refine HD.out.mono ?_
            rintro e w2 ⟨⟨eo, ec, rfl, hi⟩, hb2⟩
            have HI := Lib.hid hi
            have HBF := Lib.hid (HK2.out w2 hb2).2.2.2
            clear hi hb2
            go_wp2
            go_ret2
            rw [HOK2.out.1, HEB.out]
            exact ⟨eo, ec, rfl, HI.out, HBF.out⟩

end Go.Proofs.Ytadejcpifabpoaa
