/- Contract of cflref9.EncodeAnswer. -/
import Derived.Test.YtadejcpifabpoaaRefs
import Derived.Test.YtadejcpifabpoaaRefr
namespace Go.Proofs.Ytadejcpifabpoaa
open Go.RowKit
set_option linter.unusedVariables false
set_option linter.unusedSimpArgs false

theorem RE.event {W w : World} {p : Nat} {bs : List Int} (h : RE W w p bs) (r : EV) (ho : okE true r = true) (hlen : bs.length + 100 ≤ 140737488355328) :
    Calls Try.prog 79 #[.pointer (some ⟨p, 0, none⟩), .agg r.cells] w fun en w' => en = .returned (.tuple #[]) ∧ RE W w' p (bs ++ chunkE true r) := by
  obtain ⟨v, h1, h2, h3, h4⟩ := h
  refine (putEvent p v bs r w h1 ho hlen).mono ?_
  rintro en w' ⟨rfl, hp⟩
  exact ⟨rfl, RE.of_post h2 h3 h4 hp⟩
def ansBase (c q : Int) (n m : Nat) : Bool := tickB c && decide (0 ≤ q) && decide (q ≤ 65535) && decide (n ≤ 64) && decide (m ≤ 400)
theorem ansBase_ok (c q : Int) (rs : List (Int × Int)) (es : List EV) : ansAll c q rs es = (ansBase c q rs.length es.length && rs.all okRep && es.all (okE true)) := by
  have f6 := tick_fits c
  unfold ansAll ansBase ansOK
  rw [Bool.eq_iff_iff]
  simp only [Bool.and_eq_true, decide_eq_true_eq, ← id_fits]
  constructor
  · rintro ⟨⟨⟨⟨⟨⟨a, b⟩, c⟩, d⟩, e⟩, f⟩, g⟩; exact ⟨⟨⟨⟨⟨⟨a, e.1⟩, e.2⟩, b⟩, c⟩, f⟩, g⟩
  · rintro ⟨⟨⟨⟨⟨⟨a, e1⟩, e2⟩, b⟩, c⟩, f⟩, g⟩; exact ⟨⟨⟨⟨⟨⟨a, b⟩, c⟩, f6 a⟩, e1, e2⟩, f⟩, g⟩
theorem okRep_def (r : Int × Int) : okRep r = (byteB r.1 && decide (0 ≤ r.2) && decide (r.2 ≤ 65535)) := by
  unfold okRep
  rw [byteB_fits, Bool.eq_iff_iff]
  simp only [Bool.and_eq_true, decide_eq_true_eq, ← id_fits]
  constructor
  · rintro ⟨a, b, c⟩; exact ⟨⟨a, b⟩, c⟩
  · rintro ⟨⟨a, b⟩, c⟩; exact ⟨a, b, c⟩
theorem repsB_len (l : List (Int × Int)) : (l.flatMap chunkRep).length = 3 * l.length := by
  induction l with
  | nil => rfl
  | cons r l ih =>
    have h3 : (chunkRep r).length = 3 := by simp [chunkRep, putB_length]
    rw [List.flatMap_cons, List.length_append, List.length_cons, h3, ih]; omega
theorem evsB_len (l : List EV) (h : ∀ r ∈ l, okE true r = true) : (l.flatMap (chunkE true)).length ≤ 60 * l.length := by
  induction l with
  | nil => simp
  | cons r l ih =>
    have h2 := ih (fun q hq => h q (List.mem_cons_of_mem _ hq))
    have h3 := chunk_le r (h r List.mem_cons_self)
    rw [List.flatMap_cons, List.length_append, List.length_cons]
    omega

set_option maxRecDepth 100000 in
set_option maxHeartbeats 8000000 in
theorem rencodeAnswer (ck q : Int) (ra : Option Addr) (rs : List (Int × Int)) (n rc : Nat) (ea : Option Addr) (es : List EV) (m ec : Nat) (w : World) (hn : rs.length = n) (hr : RepsAt w ra rs) (hm : es.length = m) (he : EvsAt w ea es) :
    Calls Try.prog 43 #[.agg #[.int .i64 ck, .int .i64 q, .slice ra n rc, .slice ea m ec]] w (REncPost w (ansF ck q rs es)) := by
  obtain ⟨w1, hw1⟩ : ∃ w1, w1 = w.alloc (.cells #[.int .i64 ck, .int .i64 q, .slice ra n rc, .slice ea m ec] 57) := ⟨_, rfl⟩
  have HK : Hid (∀ w', Below w1.heap.size w1 w' → (w'.cell? ⟨w.heap.size, 0, none⟩ = some (.int .i64 ck) ∧ w'.cell? ⟨w.heap.size, 1, none⟩ = some (.int .i64 q) ∧ w'.cell? ⟨w.heap.size, 2, none⟩ = some (.slice ra n rc) ∧ w'.cell? ⟨w.heap.size, 3, none⟩ = some (.slice ea m ec)) ∧ RepsAt w' ra rs ∧ EvsAt w' ea es ∧ Below w.heap.size w w') := Lib.hid (by
    intro w' hb
    have hx : w1.heap[w.heap.size]? = some (.cells #[.int .i64 ck, .int .i64 q, .slice ra n rc, .slice ea m ec] 57 (0, 0)) := by rw [hw1]; exact heap_alloc_new w _
    have hx' := (hb.block _ (blk_lt hx)).trans hx
    have h1 : Below w.heap.size w w1 := by rw [hw1]; exact (Below.refl _ _).alloc (Nat.le_refl _) _
    exact ⟨⟨blk_cell hx' 0, blk_cell hx' 1, blk_cell hx' 2, blk_cell hx' 3⟩, (hr.below h1).below hb, (he.below h1).below hb, h1.trans (hb.mono h1.size)⟩)
  have HN := Lib.hid hn
  have HM := Lib.hid hm
  have HW1 := Lib.hid hw1
  have HF := Lib.hid (ansF_eq ck q rs es)
  have HBK : Hid (ansAll ck q rs es = (ansBase ck q n m && rs.all okRep && es.all (okE true))) := Lib.hid (by rw [ansBase_ok, hn, hm])
  clear hr he hn hm hw1
  go_enter Try.func43, Try.ntmps43
  go_upto_region 1 with fail
  rw [← HW1.out]
  obtain ⟨⟨x0, x1, x2, x3⟩, _⟩ := HK.out w1 (Below.refl _ _)
  go_cut [4] (fun s wx => s = .bool (ansBase ck q n m) ∧ wx = w1)
  case first =>
    cases q0 : tickB ck
    case' false =>
      have hb := Lib.hid (show ansBase ck q n m = false by simp [ansBase, q0])
      go_wp2_with (go_at_call 76; refine (rtick9_any _ _).mono ?_; rintro e w' ⟨rfl, rfl⟩)
      go_meet
      case rel => exact ⟨by rw [hb.out], rfl⟩
    cases q1 : decide (0 ≤ q)
    case' false =>
      have hb := Lib.hid (show ansBase ck q n m = false by simp [ansBase, q1])
      simp only [decide_eq_false_iff_not] at q1
      go_wp2_with (go_at_call 76; refine (rtick9_any _ _).mono ?_; rintro e w' ⟨rfl, rfl⟩)
      go_meet
      case rel => exact ⟨by rw [hb.out], rfl⟩
    cases q2 : decide (q ≤ 65535)
    case' false =>
      have hb := Lib.hid (show ansBase ck q n m = false by simp [ansBase, q2])
      simp only [decide_eq_false_iff_not] at q2
      simp only [decide_eq_true_eq] at q1
      go_wp2_with (go_at_call 76; refine (rtick9_any _ _).mono ?_; rintro e w' ⟨rfl, rfl⟩)
      go_meet
      case rel => exact ⟨by rw [hb.out], rfl⟩
    cases q3 : decide ((n : Int) ≤ 64)
    case' false =>
      have hb : Hid (ansBase ck q n m = false) := Lib.hid (by
        simp only [decide_eq_false_iff_not] at q3
        have : decide (n ≤ 64) = false := decide_eq_false (by omega)
        simp [ansBase, this])
      simp only [decide_eq_false_iff_not] at q3
      simp only [decide_eq_true_eq] at q1 q2
      go_wp2_with (go_at_call 76; refine (rtick9_any _ _).mono ?_; rintro e w' ⟨rfl, rfl⟩)
      go_meet
      case rel => exact ⟨by rw [hb.out], rfl⟩
    have hb : Hid (ansBase ck q n m = decide ((m : Int) ≤ 400)) := Lib.hid (by
      unfold ansBase
      rw [q0, q1, q2, Bool.eq_iff_iff]
      simp only [decide_eq_true_eq] at q3
      have : decide (n ≤ 64) = true := decide_eq_true (by omega)
      rw [this]
      simp
      omega)
    simp only [decide_eq_true_eq] at q1 q2 q3
    go_wp2_with (go_at_call 76; refine (rtick9_any _ _).mono ?_; rintro e w' ⟨rfl, rfl⟩)
    go_meet
    case rel => exact ⟨by rw [hb.out], rfl⟩
  case rest =>
    obtain ⟨rfl, rfl⟩ := hcut
    have HBN : Hid (ansBase ck q n m = true → n ≤ 64 ∧ m ≤ 400) := Lib.hid (fun h => by unfold ansBase at h; simp only [Bool.and_eq_true, decide_eq_true_eq] at h; exact ⟨h.1.2, h.2⟩)
    generalize hB : ansBase ck q n m = B at *
    clear x0 x1 x2 x3 hB
    obtain ⟨w0, rfl⟩ : ∃ w0 : World, w0 = wc := ⟨_, rfl⟩
    go_upto_block 0 with fail
    go_cut [4] (fun s wx => s = .bool (B && rs.all okRep) ∧ Below w0.heap.size w0 wx)
    case first =>
      go_wp2_with fail
      go_loopw [4, 5] (fun ok i wr => ∃ k : Nat, k ≤ n ∧ ok = .bool (B && (rs.take k).all okRep) ∧ i = .int .i64 k ∧ Below w0.heap.size w0 wr) (fun _ i _ => n - (intOf i).toNat)
      case atStart => exact ⟨0, Nat.zero_le _, by simp, rfl, Below.refl _ _⟩
      case round =>
        obtain ⟨k, hk, rfl, rfl, hbel⟩ := hrel
        have HBE := Lib.hid hbel
        obtain ⟨⟨x0, x1, x2, x3⟩, hr, _⟩ := HK.out wr hbel
        have HR := Lib.hid hr
        clear hbel hr
        cases hok : (B && (rs.take k).all okRep)
        case' false =>
          have HZ : Hid ((B && rs.all okRep) = false) := Lib.hid (by
            cases hB : B
            · rfl
            · rw [hB, Bool.true_and] at hok
              rw [all_take_false _ rs k hok]; rfl)
          clear hok
          go_wp2
          go_meet
          case rel => exact ⟨by rw [HZ.out], HBE.out⟩
        have h64 : n ≤ 64 := (HBN.out (by rw [Bool.and_eq_true] at hok; exact hok.1)).1
        by_cases hlt : k < n
        · have hkb : k < rs.length := by rw [HN.out]; exact hlt
          have HT := Lib.hid (all_take okRep rs k hkb)
          have HOK := Lib.hid hok
          obtain ⟨b, off, rfl, c0, c1⟩ := rep_cells HR.out k hkb
          have HD := Lib.hid (okRep_def rs[k])
          generalize rs[k] = r at *
          obtain ⟨r1, r2⟩ := r
          simp only at c0 c1 HD
          have j0 : (0 : Int) ≤ (k : Int) := by omega
          have j1 : (k : Int) < (n : Int) := by omega
          clear hok
          have HEND : Hid (∀ b : Bool, okRep (r1, r2) = b → (B && (rs.take (k + 1)).all okRep) = b) := Lib.hid (fun b hb => by
            rw [HT.out, ← Bool.and_assoc, HOK.out, Bool.true_and, hb])
          cases q0 : byteB r1
          case' false =>
            have HQ : Hid (okRep (r1, r2) = false) := Lib.hid (by rw [HD.out, q0]; rfl)
            go_wp2_with (go_at_call 77; refine (byte8_any _ _).mono ?_; rintro e w' ⟨rfl, rfl⟩)
            go_roundw
            case rel => exact ⟨k + 1, by omega, by rw [HEND.out false HQ.out], by go_num, HBE.out⟩
            case measure => simp [intOf]; omega
          cases q1 : decide (0 ≤ r2)
          case' false =>
            have HQ : Hid (okRep (r1, r2) = false) := Lib.hid (by rw [HD.out, q1]; simp)
            simp only [decide_eq_false_iff_not] at q1
            go_wp2_with (go_at_call 77; refine (byte8_any _ _).mono ?_; rintro e w' ⟨rfl, rfl⟩)
            go_roundw
            case rel => exact ⟨k + 1, by omega, by rw [HEND.out false HQ.out], by go_num, HBE.out⟩
            case measure => simp [intOf]; omega
          have HQ : Hid (okRep (r1, r2) = decide (r2 ≤ 65535)) := Lib.hid (by rw [HD.out, q0, q1]; simp)
          simp only [decide_eq_true_eq] at q1
          go_wp2_with (go_at_call 77; refine (byte8_any _ _).mono ?_; rintro e w' ⟨rfl, rfl⟩)
          go_roundw
          case rel => exact ⟨k + 1, by omega, by rw [HEND.out _ HQ.out], by go_num, HBE.out⟩
          case measure => simp [intOf]; omega
        · obtain rfl : k = n := by omega
          rw [List.take_of_length_le (by rw [HN.out]; exact Nat.le_refl _)] at hok
          have HOK := Lib.hid hok
          clear hok hlt
          go_wp2
          go_meet
          case rel => exact ⟨by rw [HOK.out], HBE.out⟩
    case rest =>
      obtain ⟨rfl, hbel⟩ := hcut
      have HBC := Lib.hid hbel
      clear hbel
      have HBN2 : Hid ((B && rs.all okRep) = true → (n ≤ 64 ∧ m ≤ 400)) := Lib.hid (fun h => by rw [Bool.and_eq_true] at h; exact HBN.out h.1)
      have HAR : Hid ((B && rs.all okRep) = true → rs.all okRep = true) := Lib.hid (fun h => by rw [Bool.and_eq_true] at h; exact h.2)
      generalize (B && rs.all okRep) = B2 at *
      clear HBN
      go_upto_block 2 with fail
      go_cut [4] (fun s wx => s = .bool (B2 && es.all (okE true)) ∧ Below w0.heap.size w0 wx)
      case first =>
        go_wp2_with fail
        go_loopw [4, 6] (fun ok i wr => ∃ k : Nat, k ≤ m ∧ ok = .bool (B2 && (es.take k).all (okE true)) ∧ i = .int .i64 k ∧ Below w0.heap.size w0 wr) (fun _ i _ => m - (intOf i).toNat)
        case atStart => exact ⟨0, Nat.zero_le _, by simp, rfl, HBC.out⟩
        case round =>
          obtain ⟨k, hk, rfl, rfl, hbel⟩ := hrel
          have HBE := Lib.hid hbel
          obtain ⟨⟨x0, x1, x2, x3⟩, _, hr, _⟩ := HK.out wr hbel
          have HR := Lib.hid hr
          clear hbel hr
          cases hok : (B2 && (es.take k).all (okE true))
          case' false =>
            have HZ : Hid ((B2 && es.all (okE true)) = false) := Lib.hid (by
              cases hB : B2
              · rfl
              · rw [hB, Bool.true_and] at hok
                rw [all_take_false _ es k hok]; rfl)
            clear hok
            go_wp2
            go_meet
            case rel => exact ⟨by rw [HZ.out], HBE.out⟩
          have h64 : m ≤ 400 := (HBN2.out (by rw [Bool.and_eq_true] at hok; exact hok.1)).2
          by_cases hlt : k < m
          · have hkb : k < es.length := by rw [HM.out]; exact hlt
            have HT := Lib.hid (all_take (okE true) es k hkb)
            have HOK := Lib.hid hok
            obtain ⟨b, off, rfl, hat⟩ := ev_cells HR.out k hkb
            obtain ⟨c0, c1, c2, c3, c4, c5, c6, c7, c8⟩ := hat.all
            have HMM := Lib.hid (mayEvent es[k] wr)
            rw [mayEV_ok] at HMM
            unfold EV.cells at HMM
            generalize es[k] = r at *
            have j0 : (0 : Int) ≤ (k : Int) := by omega
            have j1 : (k : Int) < (m : Int) := by omega
            clear hat hok
            go_wp2_with fail
            refine HMM.out.mono ?_
            rintro e w2 ⟨rfl, hb2⟩
            have HB2 := Lib.hid (HBE.out.trans (hb2.mono HBE.out.size))
            clear hb2
            go_wp2
            go_roundw
            case rel =>
              refine ⟨k + 1, by omega, ?_, by go_num, HB2.out⟩
              have h := HOK.out
              rw [HT.out, ← Bool.and_assoc, h, Bool.true_and]
            case measure => simp [intOf]; omega
          · obtain rfl : k = m := by omega
            rw [List.take_of_length_le (by rw [HM.out]; exact Nat.le_refl _)] at hok
            have HOK := Lib.hid hok
            clear hok hlt
            go_wp2
            go_meet
            case rel => exact ⟨by rw [HOK.out], HBE.out⟩
      case rest =>
        obtain ⟨rfl, hbel⟩ := hcut
        have HBD := Lib.hid hbel
        clear hbel
        cases hok : (B2 && es.all (okE true))
        case' false =>
          have HZ : Hid (ansF ck q rs es = ([], 1)) := Lib.hid (by rw [HF.out, HBK.out, hok]; rfl)
          have HBS := Lib.hid ((HK.out _ HBD.out).2.2.2)
          clear hok
          go_wp2
          go_ret2
          rw [HZ.out]
          exact ⟨none, 0, rfl, Or.inl rfl, HBS.out⟩
        have HOK2 : Hid (ansF ck q rs es = (ansB ck q rs es, 0) ∧ ansAll ck q rs es = true) := Lib.hid (by
          have h := HBK.out
          rw [hok] at h
          exact ⟨by rw [HF.out, h]; rfl, h⟩)
        have HALL : Hid ((n ≤ 64 ∧ m ≤ 400) ∧ fitsB ck 8 = true ∧ fitsB q 2 = true ∧ (∀ r ∈ rs, okRep r = true) ∧ ∀ r ∈ es, okE true r = true) := Lib.hid (by
          have h := HOK2.out.2
          unfold ansAll ansOK at h
          simp only [Bool.and_eq_true, decide_eq_true_eq, List.all_eq_true, HN.out, HM.out] at h
          obtain ⟨⟨⟨⟨⟨⟨_, h2⟩, h3⟩, h4⟩, h5⟩, h6⟩, h7⟩ := h
          exact ⟨⟨h2, h3⟩, h4, h5, h6, h7⟩)
        have HEB : Hid (ansB ck q rs es = ((putB ck 8 ++ putB q 2 ++ putB n 1) ++ (rs.take n).flatMap chunkRep) ++ putB m 2 ++ (es.take m).flatMap (chunkE true)) := Lib.hid (by
          unfold ansB
          rw [HN.out, HM.out, List.take_of_length_le (by rw [HN.out]; exact Nat.le_refl _), List.take_of_length_le (by rw [HM.out]; exact Nat.le_refl _)]
          simp only [List.append_assoc])
        have hn64 : n ≤ 64 := HALL.out.1.1
        have hm400 : m ≤ 400 := HALL.out.1.2
        have HLR : Hid (∀ j, ((rs.take j).flatMap chunkRep).length ≤ 192) := Lib.hid (fun j => by
          rw [repsB_len, List.length_take, HN.out]; omega)
        have HLE : Hid (∀ j, ((es.take j).flatMap (chunkE true)).length ≤ 24000) := Lib.hid (fun j => by
          have h := evsB_len (es.take j) (fun r hr => HALL.out.2.2.2.2 r (List.mem_of_mem_take hr))
          rw [List.length_take, HM.out] at h; omega)
        clear hok HBK HF HBC
        obtain ⟨wq, rfl⟩ : ∃ wq : World, wq = wc := ⟨_, rfl⟩
        have HK2 : Hid (∀ w', Below wq.heap.size wq w' → (w'.cell? ⟨w.heap.size, 0, none⟩ = some (.int .i64 ck) ∧ w'.cell? ⟨w.heap.size, 1, none⟩ = some (.int .i64 q) ∧ w'.cell? ⟨w.heap.size, 2, none⟩ = some (.slice ra n rc) ∧ w'.cell? ⟨w.heap.size, 3, none⟩ = some (.slice ea m ec)) ∧ RepsAt w' ra rs ∧ EvsAt w' ea es ∧ Below w.heap.size w w') := Lib.hid (fun w' h => HK.out w' (HBD.out.trans (h.mono HBD.out.size)))
        have HR0 := Lib.hid (RE.new (Below.refl wq.heap.size wq))
        clear HK
        go_upto_region 13 with fail
        obtain ⟨wa, hwa⟩ : ∃ wa, wa = wq.alloc (.cells #[.slice none 0 0, .int .i64 0] 105) := ⟨_, rfl⟩
        rw [← hwa] at HR0 ⊢
        obtain ⟨⟨y0, y1, y2, y3⟩, _⟩ := HK2.out wa HR0.out.base
        clear hwa
        go_wp2_with fail
        refine (HR0.out.num ck 8 (by omega) HALL.out.2.1 (by simp)).mono ?_
        rintro e wb ⟨rfl, hrb⟩
        have HRB := Lib.hid hrb
        clear hrb y0 y1 y2 y3
        obtain ⟨⟨y0, y1, y2, y3⟩, _⟩ := HK2.out wb HRB.out.base
        go_wp2_with fail
        refine (HRB.out.num q 2 (by omega) HALL.out.2.2.1 (by simp [putB_length])).mono ?_
        rintro e wd ⟨rfl, hrd⟩
        have HRD := Lib.hid hrd
        clear hrd y0 y1 y2 y3
        obtain ⟨⟨y0, y1, y2, y3⟩, _⟩ := HK2.out wd HRD.out.base
        go_wp2_with fail
        refine (HRD.out.num n 1 (by omega) (fits_len1 n (by omega)) (by simp [putB_length])).mono ?_
        rintro e wf ⟨rfl, hrf⟩
        have HRF : Hid (RE wq wf wq.heap.size (putB ck 8 ++ putB q 2 ++ putB n 1)) := Lib.hid hrf
        clear hrf y0 y1 y2 y3
        go_wp2_with fail
        go_loopw [8] (fun i wr => ∃ j : Nat, j ≤ n ∧ i = .int .i64 j ∧ RE wq wr wq.heap.size ((putB ck 8 ++ putB q 2 ++ putB n 1) ++ (rs.take j).flatMap chunkRep)) (fun i _ => n - (intOf i).toNat)
        case atStart => exact ⟨0, Nat.zero_le _, rfl, by simpa using HRF.out⟩
        case round =>
          obtain ⟨j, hj, rfl, hre⟩ := hrel
          have HRE := Lib.hid hre
          obtain ⟨⟨y0, y1, y2, y3⟩, hr, _⟩ := HK2.out wr hre.base
          clear hre
          by_cases hlt : j < n
          · have hjb : j < rs.length := by rw [HN.out]; exact hlt
            obtain ⟨b, off, rfl, c0, c1⟩ := rep_cells hr j hjb
            have HS : Hid ((rs.take (j + 1)).flatMap chunkRep = (rs.take j).flatMap chunkRep ++ chunkRep rs[j]) := Lib.hid (by rw [List.take_succ_eq_append_getElem hjb, List.flatMap_append]; simp)
            have HFI : Hid (fitsB rs[j].1 1 = true ∧ fitsB rs[j].2 2 = true) := Lib.hid (by
              have h := HALL.out.2.2.2.1 _ (List.getElem_mem hjb)
              unfold okRep at h
              rwa [Bool.and_eq_true] at h)
            have HPR := Lib.hid (HRE.out.num rs[j].1 1 (by omega) HFI.out.1 (by have := HLR.out j; simp only [List.length_append, putB_length]; omega))
            have HRJ := Lib.hid hr
            have HCJ := Lib.hid (fun w' (h : RE wq w' wq.heap.size (((putB ck 8 ++ putB q 2 ++ putB n 1) ++ (rs.take j).flatMap chunkRep) ++ putB rs[j].1 1)) => h.num rs[j].2 2 (by omega) HFI.out.2 (by have := HLR.out j; simp only [List.length_append, putB_length]; omega))
            have HCC : Hid (∀ w', Below wq.heap.size wq w' → w'.cell? ⟨b, off + j * 2 + 1, none⟩ = some (.int .i64 rs[j].2)) := Lib.hid (fun w' h => by
              obtain ⟨b', off', he, _, h2⟩ := rep_cells (HK2.out w' h).2.1 j hjb
              simp only [Option.some.injEq, Addr.mk.injEq, and_true] at he
              obtain ⟨rfl, rfl⟩ := he
              exact h2)
            generalize rs[j] = r at *
            obtain ⟨r1, r2⟩ := r
            simp only at c0 c1 HPR HCJ HCC
            have j0 : (0 : Int) ≤ (j : Int) := by omega
            have j1 : (j : Int) < (n : Int) := by omega
            clear hr
            go_wp2_with fail
            refine HPR.out.mono ?_
            rintro e w2 ⟨rfl, h2⟩
            have H2 := Lib.hid h2
            have d1 := HCC.out w2 h2.base
            clear y0 y1 y2 y3 c0 c1
            obtain ⟨⟨y0, y1, y2, y3⟩, _⟩ := HK2.out w2 h2.base
            clear h2
            go_wp2_with fail
            refine (HCJ.out w2 H2.out).mono ?_
            rintro e w3 ⟨rfl, h3⟩
            have H3 := Lib.hid h3
            clear h3
            go_wp2
            go_roundw
            case rel => exact ⟨j + 1, by omega, by go_num, by rw [HS.out, ← List.append_assoc]; unfold chunkRep; rw [← List.append_assoc]; exact H3.out⟩
            case measure => simp [intOf]; omega
          · obtain rfl : j = n := by omega
            clear hlt hr
            have HLT := HLR.out j
            generalize hT : (putB ck 8 ++ putB q 2 ++ putB j 1) ++ (rs.take j).flatMap chunkRep = T at *
            have HTL : Hid (T.length ≤ 1000) := Lib.hid (by rw [← hT]; simp only [List.length_append, putB_length]; omega)
            clear hT HLT
            go_wp2_with fail
            refine (HRE.out.num m 2 (by omega) (by rw [← id_fits]; omega) (by have := HTL.out; omega)).mono ?_
            rintro e wg ⟨rfl, hrg⟩
            have HRG : Hid (RE wq wg wq.heap.size (T ++ putB m 2)) := Lib.hid hrg
            clear hrg y0 y1 y2 y3
            go_wp2_with fail
            go_loopw [9] (fun i wr => ∃ j : Nat, j ≤ m ∧ i = .int .i64 j ∧ RE wq wr wq.heap.size (T ++ putB m 2 ++ (es.take j).flatMap (chunkE true))) (fun i _ => m - (intOf i).toNat)
            case atStart => exact ⟨0, Nat.zero_le _, rfl, by simpa using HRG.out⟩
            case round =>
              obtain ⟨i, hi, rfl, hre⟩ := hrel
              have HREE := Lib.hid hre
              obtain ⟨⟨y0, y1, y2, y3⟩, _, hr, _⟩ := HK2.out wr hre.base
              clear hre
              by_cases hlt : i < m
              · have hjb : i < es.length := by rw [HM.out]; exact hlt
                obtain ⟨b, off, rfl, hat⟩ := ev_cells hr i hjb
                obtain ⟨c0, c1, c2, c3, c4, c5, c6, c7, c8⟩ := hat.all
                have HS : Hid ((es.take (i + 1)).flatMap (chunkE true) = (es.take i).flatMap (chunkE true) ++ chunkE true es[i]) := Lib.hid (by rw [List.take_succ_eq_append_getElem hjb, List.flatMap_append]; simp)
                have HPR := Lib.hid (HREE.out.event es[i] (HALL.out.2.2.2.2 _ (List.getElem_mem hjb)) (by have := HLE.out i; have := HTL.out; simp only [List.length_append, putB_length]; omega))
                generalize es[i] = r at *
                unfold EV.cells at HPR
                have j0 : (0 : Int) ≤ (i : Int) := by omega
                have j1 : (i : Int) < (m : Int) := by omega
                clear hat hr
                go_wp2_with fail
                refine HPR.out.mono ?_
                rintro e w2 ⟨rfl, h2⟩
                have H2 := Lib.hid h2
                clear h2
                go_wp2
                go_roundw
                case rel => exact ⟨i + 1, by omega, by go_num, by rw [HS.out, ← List.append_assoc]; exact H2.out⟩
                case measure => simp [intOf]; omega
              · obtain rfl : i = m := by omega
                have HDN := Lib.hid HREE.out.done
                generalize T ++ putB i 2 ++ (es.take i).flatMap (chunkE true) = T2 at *
                clear hr hlt
                go_wp2_with fail
                refine HDN.out.mono ?_
                rintro e w2 ⟨⟨eo, ec', rfl, hi2⟩, hb2⟩
                have HI := Lib.hid hi2
                have HBF := Lib.hid (HK2.out w2 hb2).2.2.2
                clear hi2 hb2
                go_wp2
                go_ret2
                rw [HOK2.out.1, HEB.out]
                exact ⟨eo, ec', rfl, HI.out, HBF.out⟩

end Go.Proofs.Ytadejcpifabpoaa
