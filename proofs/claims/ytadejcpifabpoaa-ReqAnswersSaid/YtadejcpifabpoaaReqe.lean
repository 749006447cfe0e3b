/- Batches and answers, plainly: what may be laid, its bytes, and that these are read as it was. -/
import Derived.Test.YtadejcpifabpoaaReqd
namespace Go.Proofs.Ytadejcpifabpoaa
open Go.RowKit
set_option linter.unusedVariables false
set_option linter.unusedSimpArgs false

def foldEv (ev : Bool) (es : List EV) (st : List Int × Bool) : List Int × Bool := es.foldl (fun st e => evOut e (hasN e.k ev) st) st
theorem evs_snd (ev : Bool) (es : List EV) (st : List Int × Bool) : (foldEv ev es st).2 = (st.2 || !es.all (okE ev)) := by
  induction es generalizing st with
  | nil => simp [foldEv]
  | cons e es ih =>
    show (foldEv ev es (evOut e (hasN e.k ev) st)).2 = _
    rw [ih, evOut_snd, List.all_cons]
    cases st.2 <;> cases okE ev e <;> simp
theorem evs_fst (ev : Bool) (es : List EV) (st : List Int × Bool) (h : es.all (okE ev) = true) : (foldEv ev es st).1 = st.1 ++ es.flatMap (chunkE ev) := by
  induction es generalizing st with
  | nil => simp [foldEv]
  | cons e es ih =>
    rw [List.all_cons, Bool.and_eq_true] at h
    show (foldEv ev es (evOut e (hasN e.k ev) st)).1 = _
    rw [ih _ h.2, evOut_fst ev st e h.1, List.flatMap_cons, List.append_assoc]
theorem evsIn_chunks (ev : Bool) (es : List EV) (rest : List Int) (h : es.all (okE ev) = true) : evsIn ev es.length (es.flatMap (chunkE ev) ++ rest, false) = (es, (rest, false)) := by
  induction es generalizing rest with
  | nil => rfl
  | cons e es ih =>
    rw [List.all_cons, Bool.and_eq_true] at h
    have h1 := evIn_chunk ev e (es.flatMap (chunkE ev) ++ rest) false h.1
    simp only [List.length_cons, evsIn, List.flatMap_cons, List.append_assoc, h1, ih rest h.2, Bool.false_eq_true, if_false]
theorem fits_nat (n : Nat) (s : Nat) (hs : 1 ≤ s ∧ s ≤ 8) (h : n < 256) : fitsB (n : Int) (s : Nat) = true := by
  have h1 : amtB (n : Int) = true := (amt_iff _).2 ⟨by omega, by unfold MA; omega⟩
  have h0 : mayB (s : Int) = true := by simp [mayB]; omega
  have h2 : (n : Int) / 2 ^ (8 * ((s : Nat) : Int).toNat) ≤ 0 := by
    have hp : (256 : Int) ≤ 2 ^ (8 * s) := by
      have := Nat.pow_le_pow_right (n := 2) (by decide) (show 8 ≤ 8 * s by omega)
      have e : ((2 ^ (8 * s) : Nat) : Int) = (2 : Int) ^ (8 * s) := by rw [Int.natCast_pow]; rfl
      omega
    rw [Int.toNat_natCast, Int.ediv_eq_zero_of_lt (by omega) (by omega)]
    exact Int.le_refl _
  unfold fitsB
  rw [h0, h1, decide_eq_true h2]
  simp
theorem fits_len2 (n : Nat) (h : n ≤ 65535) : fitsB (n : Int) 2 = true := fits_len n h
theorem fits_len1 (n : Nat) (h : n ≤ 255) : fitsB (n : Int) 1 = true := fits_nat n 1 (by omega) (by omega)

/-! Batches. -/
def EV.rq (e : EV) : RQ := ⟨e.k, e.t, e.a, e.n, e.i, e.d, e.h, e.s⟩
theorem rq_ev_rq (r : RQ) : r.ev.rq = r := rfl
def chunkR (r : RQ) : List Int := chunkE false r.ev
def encOK (seen : Int) (rs : List RQ) : Bool := decide (rs.length ≤ 64) && fitsB seen 2 && (rs.map RQ.ev).all (okE false)
def encB (seen : Int) (rs : List RQ) : List Int := putB seen 2 ++ (putB rs.length 1 ++ (rs.map RQ.ev).flatMap (chunkE false))
theorem encSt_fold (seen : Int) (rs : List RQ) : encSt seen rs = foldEv false (rs.map RQ.ev) (encHead seen rs.length) := by
  unfold encSt foldEv
  rw [List.foldl_map]
  rfl
theorem encF_eq (seen : Int) (rs : List RQ) : encF seen rs = if encOK seen rs = true then (encB seen rs, 0) else ([], 1) := by
  unfold encF encOK
  by_cases h : 64 < rs.length
  · rw [if_pos h, decide_eq_false (by omega)]; simp
  · rw [if_neg h, decide_eq_true (show rs.length ≤ 64 by omega), encSt_fold]
    have f1 := fits_len1 rs.length (by omega)
    unfold outEnd
    rw [evs_snd]
    have e2 : (encHead seen rs.length).2 = !fitsB seen 2 := by
      unfold encHead
      rw [numOut_snd, numOut_snd, f1]; simp
    rw [e2]
    cases hs : fitsB seen 2
    · simp
    · cases ha : (rs.map RQ.ev).all (okE false)
      · simp
      · rw [evs_fst false _ _ ha]
        have e1 : (encHead seen rs.length).1 = putB seen 2 ++ putB rs.length 1 := by
          unfold encHead
          rw [numOut_fst, numOut_fst, f1, hs]; simp
        rw [e1]
        unfold encB
        simp
def batchIn (l : List Int) : (Int × List RQ) × InS :=
  (((inNum 2 (l, false)).1, (evsIn false (inNum 1 (inNum 2 (l, false)).2).1.toNat (inNum 1 (inNum 2 (l, false)).2).2).1.map EV.rq), (evsIn false (inNum 1 (inNum 2 (l, false)).2).1.toNat (inNum 1 (inNum 2 (l, false)).2).2).2)
theorem batchIn_enc (seen : Int) (rs : List RQ) (rest : List Int) (h : encOK seen rs = true) : batchIn (encB seen rs ++ rest) = ((seen, rs), (rest, false)) := by
  unfold encOK at h
  rw [Bool.and_eq_true, Bool.and_eq_true, decide_eq_true_eq] at h
  obtain ⟨⟨h1, h2⟩, h3⟩ := h
  have g1 := fun rest => inNum_put seen 2 rest false h2
  have g2 := fun rest => inNum_put rs.length 1 rest false (fits_len1 rs.length (by omega))
  have g3 := evsIn_chunks false (rs.map RQ.ev) rest h3
  rw [List.length_map] at g3
  unfold batchIn encB
  simp only [List.append_assoc, g1, g2, Int.toNat_natCast, g3, List.map_map]
  congr 2
  have : (EV.rq ∘ RQ.ev) = id := by funext r; rfl
  rw [this, List.map_id]
def decF (b : List Int) : (Int × List RQ) × Int :=
  if (batchIn b).2.2 = false ∧ (encF (batchIn b).1.1 (batchIn b).1.2).2 = 0 ∧ (encF (batchIn b).1.1 (batchIn b).1.2).1 = b then ((batchIn b).1, 0) else ((0, []), 2)
theorem encF_ok {seen : Int} {rs : List RQ} (h : (encF seen rs).2 = 0) : encOK seen rs = true ∧ (encF seen rs).1 = encB seen rs := by
  rw [encF_eq] at h ⊢
  cases ho : encOK seen rs
  · rw [ho] at h; simp at h
  · simp
theorem encF_12 (seen : Int) (rs : List RQ) : (encF seen rs).2 = 0 ∨ encF seen rs = ([], 1) := by
  rw [encF_eq]; split
  · exact Or.inl rfl
  · exact Or.inr rfl
theorem decF_enc (seen : Int) (rs : List RQ) (h : (encF seen rs).2 = 0) : decF (encF seen rs).1 = ((seen, rs), 0) := by
  obtain ⟨h1, h2⟩ := encF_ok h
  have h3 := batchIn_enc seen rs [] h1
  rw [List.append_nil] at h3
  unfold decF
  rw [h2, h3]
  simp [h, h2]
theorem decF_ok {b : List Int} (h : (decF b).2 = 0) : encF (decF b).1.1 (decF b).1.2 = (b, 0) := by
  unfold decF at h ⊢
  split at h
  · rename_i hc
    rw [if_pos hc]
    exact Prod.ext hc.2.2 hc.2.1
  · simp at h
theorem decF_12 (b : List Int) : (decF b).2 = 0 ∨ decF b = ((0, []), 2) := by
  unfold decF; split
  · exact Or.inl rfl
  · exact Or.inr rfl
/-- The reader tells a batch just if it is laid by these bytes. -/
theorem decF_iff (b : List Int) (seen : Int) (rs : List RQ) : decF b = ((seen, rs), 0) ↔ encF seen rs = (b, 0) := by
  constructor
  · intro h
    have := decF_ok (b := b) (by rw [h])
    rwa [h] at this
  · intro h
    have := decF_enc seen rs (by rw [h])
    rwa [h] at this
theorem chunkE_in (ev : Bool) (e : EV) : InB (chunkE ev e) := by
  intro z hz
  unfold chunkE at hz
  rcases List.mem_append.1 hz with h | h
  · exact putB_in _ _ z h
  · obtain ⟨c, _, h2⟩ := List.mem_flatMap.1 h
    unfold partE at h2
    split at h2
    · exact putB_in _ _ z h2
    · exact strNums_in _ z h2
theorem encB_in (seen : Int) (rs : List RQ) : InB (encB seen rs) := by
  intro z hz
  unfold encB at hz
  simp only [List.mem_append, List.mem_flatMap] at hz
  rcases hz with h | h | ⟨e, _, h⟩
  · exact putB_in _ _ z h
  · exact putB_in _ _ z h
  · exact chunkE_in _ _ z h
theorem encF_in (seen : Int) (rs : List RQ) : InB (encF seen rs).1 := by
  rw [encF_eq]; split
  · exact encB_in _ _
  · intro z hz; cases hz

/-! Answers. -/
def okRep (r : Int × Int) : Bool := fitsB r.1 1 && fitsB r.2 2
def chunkRep (r : Int × Int) : List Int := putB r.1 1 ++ putB r.2 2
theorem rep_snd (rs : List (Int × Int)) (st : List Int × Bool) : (rs.foldl encRep st).2 = (st.2 || !rs.all okRep) := by
  induction rs generalizing st with
  | nil => simp
  | cons r rs ih =>
    rw [List.foldl_cons, ih, List.all_cons]
    unfold encRep okRep
    rw [numOut_snd, numOut_snd]
    cases st.2 <;> cases fitsB r.1 1 <;> cases fitsB r.2 2 <;> simp
theorem rep_fst (rs : List (Int × Int)) (st : List Int × Bool) (h : rs.all okRep = true) : (rs.foldl encRep st).1 = st.1 ++ rs.flatMap chunkRep := by
  induction rs generalizing st with
  | nil => simp
  | cons r rs ih =>
    rw [List.all_cons, Bool.and_eq_true] at h
    obtain ⟨h1, h2⟩ := h
    unfold okRep at h1
    rw [Bool.and_eq_true] at h1
    rw [List.foldl_cons, ih _ h2, List.flatMap_cons]
    unfold encRep chunkRep
    rw [numOut_fst, numOut_fst, if_pos h1.1, if_pos h1.2]
    simp
theorem repsIn_chunks (rs : List (Int × Int)) (rest : List Int) (h : rs.all okRep = true) : repsIn rs.length (rs.flatMap chunkRep ++ rest, false) = (rs, (rest, false)) := by
  induction rs generalizing rest with
  | nil => rfl
  | cons r rs ih =>
    rw [List.all_cons, Bool.and_eq_true] at h
    obtain ⟨h1, h2⟩ := h
    unfold okRep at h1
    rw [Bool.and_eq_true] at h1
    have g1 := fun rest => inNum_put r.1 1 rest false h1.1
    have g2 := fun rest => inNum_put r.2 2 rest false h1.2
    simp only [List.length_cons, repsIn, repIn, List.flatMap_cons, chunkRep, List.append_assoc, g1, g2, ih rest h2, Bool.false_eq_true, if_false]
def ansAll (clock seen : Int) (rs : List (Int × Int)) (es : List EV) : Bool := ansOK clock rs.length es.length && fitsB clock 8 && fitsB seen 2 && rs.all okRep && es.all (okE true)
def ansB (clock seen : Int) (rs : List (Int × Int)) (es : List EV) : List Int := putB clock 8 ++ (putB seen 2 ++ (putB rs.length 1 ++ (rs.flatMap chunkRep ++ (putB es.length 2 ++ es.flatMap (chunkE true)))))
theorem ansSt_fold (clock seen : Int) (rs : List (Int × Int)) (es : List EV) : ansSt clock seen rs es = foldEv true es (numOut (rs.foldl encRep (ansHead clock seen rs.length)) es.length 2) := rfl
theorem ansF_eq (clock seen : Int) (rs : List (Int × Int)) (es : List EV) : ansF clock seen rs es = if ansAll clock seen rs es = true then (ansB clock seen rs es, 0) else ([], 1) := by
  unfold ansF ansAll
  cases h : ansOK clock rs.length es.length
  · simp
  · have h' := h
    unfold ansOK at h'
    simp only [Bool.and_eq_true, decide_eq_true_eq] at h'
    obtain ⟨⟨_, hn⟩, hm⟩ := h'
    have f1 := fits_len1 rs.length (by omega)
    have f2 := fits_len2 es.length (by omega)
    rw [if_pos rfl, ansSt_fold]
    unfold outEnd
    rw [evs_snd, numOut_snd, f2, rep_snd]
    have e2 : (ansHead clock seen rs.length).2 = !(fitsB clock 8 && fitsB seen 2) := by
      unfold ansHead
      rw [numOut_snd, numOut_snd, numOut_snd, f1]; simp
    rw [e2]
    cases hc : fitsB clock 8
    · simp
    · cases hs : fitsB seen 2
      · simp
      · cases hr : rs.all okRep
        · simp
        · cases ha : es.all (okE true)
          · simp
          · rw [evs_fst true _ _ ha, numOut_fst, if_pos f2, rep_fst _ _ hr]
            have e1 : (ansHead clock seen rs.length).1 = putB clock 8 ++ putB seen 2 ++ putB rs.length 1 := by
              unfold ansHead
              rw [numOut_fst, numOut_fst, numOut_fst, f1, hs, hc]; simp
            rw [e1]
            unfold ansB
            simp
structure AN where
  c : Int
  q : Int
  rs : List (Int × Int)
  es : List EV
def ansIn (l : List Int) : AN × InS :=
  let c := inNum 8 (l, false)
  let q := inNum 2 c.2
  let n := inNum 1 q.2
  let rs := repsIn n.1.toNat n.2
  let m := inNum 2 rs.2
  let es := evsIn true m.1.toNat m.2
  (⟨c.1, q.1, rs.1, es.1⟩, es.2)
theorem ansIn_enc (clock seen : Int) (rs : List (Int × Int)) (es : List EV) (rest : List Int) (h : ansAll clock seen rs es = true) : ansIn (ansB clock seen rs es ++ rest) = (⟨clock, seen, rs, es⟩, (rest, false)) := by
  unfold ansAll ansOK at h
  simp only [Bool.and_eq_true, decide_eq_true_eq] at h
  obtain ⟨⟨⟨⟨⟨⟨_, hn⟩, hm⟩, h1⟩, h2⟩, h3⟩, h4⟩ := h
  have g1 := fun rest => inNum_put clock 8 rest false h1
  have g2 := fun rest => inNum_put seen 2 rest false h2
  have g3 := fun rest => inNum_put rs.length 1 rest false (fits_len1 rs.length (by omega))
  have g4 := fun rest => repsIn_chunks rs rest h3
  have g5 := fun rest => inNum_put es.length 2 rest false (fits_len2 es.length (by omega))
  have g6 := evsIn_chunks true es rest h4
  unfold ansIn ansB
  simp only [List.append_assoc, g1, g2, g3, Int.toNat_natCast, g4, g5, g6]
def an0 : AN := ⟨0, 0, [], []⟩
def AN.enc (a : AN) : List Int × Int := ansF a.c a.q a.rs a.es
def decA (b : List Int) : AN × Int := if (ansIn b).2.2 = false ∧ (ansIn b).1.enc.2 = 0 ∧ (ansIn b).1.enc.1 = b then ((ansIn b).1, 0) else (an0, 2)
theorem ansF_ok {a : AN} (h : a.enc.2 = 0) : ansAll a.c a.q a.rs a.es = true ∧ a.enc.1 = ansB a.c a.q a.rs a.es := by
  unfold AN.enc at h ⊢
  rw [ansF_eq] at h ⊢
  cases ho : ansAll a.c a.q a.rs a.es
  · rw [ho] at h; simp at h
  · simp
theorem ansF_12 (a : AN) : a.enc.2 = 0 ∨ a.enc = ([], 1) := by
  unfold AN.enc
  rw [ansF_eq]; split
  · exact Or.inl rfl
  · exact Or.inr rfl
theorem decA_enc (a : AN) (h : a.enc.2 = 0) : decA a.enc.1 = (a, 0) := by
  obtain ⟨h1, h2⟩ := ansF_ok h
  have h3 := ansIn_enc a.c a.q a.rs a.es [] h1
  rw [List.append_nil] at h3
  unfold decA
  rw [h2, h3]
  have e : (⟨a.c, a.q, a.rs, a.es⟩ : AN) = a := rfl
  rw [e, h, h2]
  simp
theorem decA_ok {b : List Int} (h : (decA b).2 = 0) : (decA b).1.enc = (b, 0) := by
  unfold decA at h ⊢
  split at h
  · rename_i hc
    rw [if_pos hc]
    exact Prod.ext hc.2.2 hc.2.1
  · simp at h
theorem decA_12 (b : List Int) : (decA b).2 = 0 ∨ decA b = (an0, 2) := by
  unfold decA; split
  · exact Or.inl rfl
  · exact Or.inr rfl
theorem decA_iff (b : List Int) (a : AN) : decA b = (a, 0) ↔ a.enc = (b, 0) := by
  constructor
  · intro h
    have := decA_ok (b := b) (by rw [h])
    rwa [h] at this
  · intro h
    have := decA_enc a (by rw [h])
    rwa [h] at this
theorem ansB_in (clock seen : Int) (rs : List (Int × Int)) (es : List EV) : InB (ansB clock seen rs es) := by
  intro z hz
  unfold ansB chunkRep at hz
  simp only [List.mem_append, List.mem_flatMap] at hz
  rcases hz with h | h | h | ⟨r, _, h | h⟩ | h | ⟨e, _, h⟩
  all_goals first | exact putB_in _ _ z h | exact chunkE_in _ _ z h
theorem ansF_in (clock seen : Int) (rs : List (Int × Int)) (es : List EV) : InB (ansF clock seen rs es).1 := by
  rw [ansF_eq]; split
  · exact ansB_in _ _ _ _
  · intro z hz; cases hz

/-! The same. -/
theorem eqS_iff (a b : ByteArray) : eqS a b = true ↔ a = b := by
  unfold eqS
  rw [beq_iff_eq, ByteArray.toList_eq, ByteArray.toList_eq]
  constructor
  · intro h
    cases a; cases b
    simpa using h
  · rintro rfl; rfl
theorem eqRQ_iff (r q : RQ) : eqRQ r q = true ↔ r = q := by
  obtain ⟨k, t, a, n, i, d, h, s⟩ := r
  obtain ⟨k', t', a', n', i', d', h', s'⟩ := q
  simp [eqRQ, eqS_iff]
theorem eqEV_iff (r q : EV) : eqEV r q = true ↔ r = q := by
  obtain ⟨k, f, t, a, n, i, d, h, s⟩ := r
  obtain ⟨k', f', t', a', n', i', d', h', s'⟩ := q
  simp [eqEV, eqS_iff]
theorem eqRP_iff (r q : Int × Int) : eqRP r q = true ↔ r = q := by
  obtain ⟨a, b⟩ := r
  obtain ⟨c, d⟩ := q
  simp [eqRP]
theorem allB_iff {α : Type} (f : α → α → Bool) (hf : ∀ x y, f x y = true ↔ x = y) : ∀ xs ys : List α, allB f xs ys = true ↔ xs = ys
  | [], [] => by simp [allB, allF]
  | [], y :: ys => by simp [allB]
  | x :: xs, [] => by simp [allB]
  | x :: xs, y :: ys => by
    have ih := allB_iff f hf xs ys
    unfold allB at ih ⊢
    rw [Bool.and_eq_true, decide_eq_true_eq] at ih ⊢
    simp only [allF, Bool.and_eq_true, hf, List.length_cons, Nat.add_right_cancel_iff, List.cons.injEq]
    rw [← ih]
    exact ⟨fun h => ⟨h.2.1, h.1, h.2.2⟩, fun h => ⟨h.2.1, h.1, h.2.2⟩⟩
theorem sameB_iff (s1 : Int) (xs : List RQ) (s2 : Int) (ys : List RQ) : sameB s1 xs s2 ys = true ↔ s1 = s2 ∧ xs = ys := by
  unfold sameB
  rw [Bool.and_eq_true, beq_iff_eq, allB_iff eqRQ eqRQ_iff]
theorem sameA_iff (c1 s1 : Int) (xs : List (Int × Int)) (es : List EV) (c2 s2 : Int) (ys : List (Int × Int)) (fs : List EV) : sameA c1 s1 xs es c2 s2 ys fs = true ↔ c1 = c2 ∧ s1 = s2 ∧ xs = ys ∧ es = fs := by
  unfold sameA
  rw [Bool.and_eq_true, Bool.and_eq_true, Bool.and_eq_true, beq_iff_eq, beq_iff_eq, allB_iff eqRP eqRP_iff, allB_iff eqEV eqEV_iff]
/-- ReqSame, plainly. -/
theorem same_batch (s1 : Int) (xs : List RQ) (s2 : Int) (ys : List RQ) (h1 : (encF s1 xs).2 = 0) (h2 : (encF s2 ys).2 = 0) : eqB (encF s1 xs).1 (encF s2 ys).1 = sameB s1 xs s2 ys := by
  rw [Bool.eq_iff_iff, sameB_iff]
  unfold eqB
  rw [decide_eq_true_eq]
  constructor
  · intro h
    have a := decF_enc s1 xs h1
    rw [h, decF_enc s2 ys h2] at a
    simp only [Prod.mk.injEq, and_true] at a
    exact ⟨a.1.symm, a.2.symm⟩
  · rintro ⟨rfl, rfl⟩; rfl
theorem same_answer (a b : AN) (h1 : a.enc.2 = 0) (h2 : b.enc.2 = 0) : eqB a.enc.1 b.enc.1 = sameA a.c a.q a.rs a.es b.c b.q b.rs b.es := by
  rw [Bool.eq_iff_iff, sameA_iff]
  unfold eqB
  rw [decide_eq_true_eq]
  constructor
  · intro h
    have x := decA_enc a h1
    rw [h, decA_enc b h2] at x
    simp only [Prod.mk.injEq, and_true] at x
    rw [x]; exact ⟨rfl, rfl, rfl, rfl⟩
  · rintro ⟨e1, e2, e3, e4⟩
    unfold AN.enc
    rw [e1, e2, e3, e4]

end Go.Proofs.Ytadejcpifabpoaa
