/- WireWrites is true for every input, and its arguments read behind the call as before; no condition. -/
import Derived.Test.YtnohdbhkepdjbaaRefe2
import Derived.Test.YtnohdbhkepdjbaaFew4
import Derived.Test.YtnohdbhkepdjbaaLaw4
import Derived.Test.YtnohdbhkepdjbaaPack
namespace Go.Proofs.Ytnohdbhkepdjbaa
open Go.ChangeShapes Go.WideShapes Go.ChangeAt Go.RowKit
set_option linter.unusedVariables false

def EE (W w : World) (pe : Nat) (bs : List Int) (e : Int) (px : Nat) (xs : List Int) (ex : Int) : Prop :=
  ∃ v u, EncAt 66 w pe v bs e ∧ EncAt 43 w px u xs ex ∧ Below W.heap.size W w ∧ (W.heap.size ≤ pe ∧ W.heap.size ≤ px) ∧ (∀ k, v.ownBlock = some k → W.heap.size ≤ k) ∧ (∀ k, u.ownBlock = some k → W.heap.size ≤ k) ∧ (∀ k, fpE pe v k → ¬ fpE px u k)
theorem EE.base {W w : World} {pe px : Nat} {bs xs : List Int} {e ex : Int} (h : EE W w pe bs e px xs ex) : Below W.heap.size W w := by obtain ⟨_, _, _, _, h, _⟩ := h; exact h
theorem EE.below {W w w' : World} {pe px : Nat} {bs xs : List Int} {e ex : Int} (h : EE W w pe bs e px xs ex) (hb : Below w.heap.size w w') : EE W w' pe bs e px xs ex := by
  obtain ⟨v, u, h1, h2, h3, h4⟩ := h
  exact ⟨v, u, h1.keep (Keeps.of_below (S := fun _ => False) hb) (fun _ _ f => f), h2.keep (Keeps.of_below (S := fun _ => False) hb) (fun _ _ f => f), h3.trans (hb.mono h3.size), h4⟩
theorem EE.drew {W w : World} {pe px : Nat} {bs xs : List Int} {e ex : Int} (h : EE W w pe bs e px xs ex) : EE W w.drew pe bs e px xs ex := h.below ((Keeps.refl (fun _ => False) w).drew.below (Nat.le_refl _) (fun _ f => f.elim))
theorem EE.left {W w w' : World} {pe px : Nat} {v u : Value} {xs bs' : List Int} {ex e' : Int} (h2 : EncAt 43 w px u xs ex) (h3 : Below W.heap.size W w) (h4 : W.heap.size ≤ pe ∧ W.heap.size ≤ px) (h5 : ∀ k, v.ownBlock = some k → W.heap.size ≤ k) (h6 : ∀ k, u.ownBlock = some k → W.heap.size ≤ k) (h7 : ∀ k, fpE pe v k → ¬ fpE px u k)
    (hp : EncPost 66 w pe v bs' e' w') : EE W w' pe bs' e' px xs ex := by
  obtain ⟨v', a1, a2, a3⟩ := hp
  refine ⟨v', u, a1, h2.keep a2 (fun k hk hs => h7 k hs hk), h3.trans (a2.below h3.size (fun k hk => by rcases hk with rfl | hk; exact h4.1; exact h5 k hk)), h4, fun k hk => ?_, h6, fun k hk hu => ?_⟩
  · rcases a3 k hk with h | h
    · exact h5 k h
    · have := h3.size; omega
  · rcases hk with hk | hk
    · exact h7 k (Or.inl hk) hu
    · rcases a3 k hk with h | h
      · exact h7 k (Or.inr h) hu
      · have := h2.lt k hu; omega
theorem EE.right {W w w' : World} {pe px : Nat} {v u : Value} {bs xs' : List Int} {e ex' : Int} (h2 : EncAt 66 w pe v bs e) (h3 : Below W.heap.size W w) (h4 : W.heap.size ≤ pe ∧ W.heap.size ≤ px) (h5 : ∀ k, v.ownBlock = some k → W.heap.size ≤ k) (h6 : ∀ k, u.ownBlock = some k → W.heap.size ≤ k) (h7 : ∀ k, fpE pe v k → ¬ fpE px u k)
    (hp : EncPost 43 w px u xs' ex' w') : EE W w' pe bs e px xs' ex' := by
  obtain ⟨u', a1, a2, a3⟩ := hp
  refine ⟨v, u', h2.keep a2 (fun k hk hs => h7 k hk hs), a1, h3.trans (a2.below h3.size (fun k hk => by rcases hk with rfl | hk; exact h4.2; exact h6 k hk)), h4, h5, fun k hk => ?_, fun k hk hu => ?_⟩
  · rcases a3 k hk with h | h
    · exact h6 k h
    · have := h3.size; omega
  · rcases hu with hu | hu
    · exact h7 k hk (Or.inl hu)
    · rcases a3 k hu with h | h
      · exact h7 k hk (Or.inr h)
      · have := h2.lt k hk; omega
theorem EE.num {W w : World} {pe px : Nat} {bs xs : List Int} {e ex : Int} (h : EE W w pe bs e px xs ex) (n size : Int) (hl : bs.length + 8 ≤ 140737488355328) :
    Calls Try.prog 21 #[.pointer (some ⟨pe, 0, none⟩), .int .i64 n, .int .i64 size] w fun en w' => en = .returned (.tuple #[]) ∧ EE W w' pe (encNum bs e n size).1 (encNum bs e n size).2 px xs ex := by
  obtain ⟨v, u, h1, h2, h3, h4, h5, h6, h7⟩ := h
  exact (enc_num pe v bs e n size w h1 hl).mono fun _ _ ⟨a, b⟩ => ⟨a, EE.left h2 h3 h4 h5 h6 h7 b⟩
theorem EE.xnum {W w : World} {pe px : Nat} {bs xs : List Int} {e ex : Int} (h : EE W w pe bs e px xs ex) (n size : Int) (hl : xs.length + 8 ≤ 140737488355328) :
    Calls Try.prog 34 #[.pointer (some ⟨px, 0, none⟩), .int .i64 n, .int .i64 size] w fun en w' => en = .returned (.tuple #[]) ∧ EE W w' pe bs e px (refNum xs ex n size).1 (refNum xs ex n size).2 := by
  obtain ⟨v, u, h1, h2, h3, h4, h5, h6, h7⟩ := h
  exact (refnum_any px u xs ex n size w h2 hl).mono fun _ _ ⟨a, b⟩ => ⟨a, EE.right h1 h3 h4 h5 h6 h7 b⟩
theorem EE.bytes {W w : World} {pe px : Nat} {bs xs : List Int} {e ex : Int} (h : EE W w pe bs e px xs ex) (ao : Option Addr) (zs : List Int) (n cap : Nat) (hn : zs.length = n) (hx : IntsAt .u8 w ao zs) (hf : zs = [] ∨ ∀ a, ao = some a → a.block < W.heap.size) (hl : bs.length + 8 + n ≤ 140737488355328) :
    Calls Try.prog 35 #[.pointer (some ⟨pe, 0, none⟩), .slice ao n cap] w fun en w' => en = .returned (.tuple #[]) ∧ EE W w' pe (encBytes bs e zs).1 (encBytes bs e zs).2 px xs ex := by
  obtain ⟨v, u, h1, h2, h3, h4, h5, h6, h7⟩ := h
  refine (enc_bytes pe v bs e w h1 ao zs n cap hn hx ?_ hl).mono fun _ _ ⟨a, b⟩ => ⟨a, EE.left h2 h3 h4 h5 h6 h7 b⟩
  rcases hf with h | h
  · exact Or.inl h
  · refine Or.inr (fun a ha hk => ?_)
    have := h a ha
    rcases hk with hk | hk
    · omega
    · have := h5 _ hk; omega
theorem EE.xbytes {W w : World} {pe px : Nat} {bs xs : List Int} {e ex : Int} (h : EE W w pe bs e px xs ex) (ao : Option Addr) (zs : List Int) (n cap : Nat) (hn : zs.length = n) (hx : IntsAt .u8 w ao zs) (hf : zs = [] ∨ ∀ a, ao = some a → a.block < W.heap.size) (hl : xs.length + 8 + n ≤ 140737488355328) :
    Calls Try.prog 36 #[.pointer (some ⟨px, 0, none⟩), .slice ao n cap] w fun en w' => en = .returned (.tuple #[]) ∧ EE W w' pe bs e px (refBytes xs ex zs).1 (refBytes xs ex zs).2 := by
  obtain ⟨v, u, h1, h2, h3, h4, h5, h6, h7⟩ := h
  refine (refbytes_any px u xs ex w h2 ao zs n cap hn hx ?_ hl).mono fun _ _ ⟨a, b⟩ => ⟨a, EE.right h1 h3 h4 h5 h6 h7 b⟩
  rcases hf with h | h
  · exact Or.inl h
  · refine Or.inr (fun a ha hk => ?_)
    have := h a ha
    rcases hk with hk | hk
    · omega
    · have := h6 _ hk; omega
theorem EE.done {W w : World} {pe px : Nat} {bs xs : List Int} {e ex : Int} (h : EE W w pe bs e px xs ex) (hl : bs.length ≤ 140737488355328) :
    Calls Try.prog 22 #[.pointer (some ⟨pe, 0, none⟩)] w (RowPost2 w (doneB bs e) e) := by
  obtain ⟨v, u, h1, _⟩ := h
  exact enc_done pe v bs e w h1 hl
theorem EE.xdone {W w : World} {pe px : Nat} {bs xs : List Int} {e ex : Int} (h : EE W w pe bs e px xs ex) :
    Calls Try.prog 37 #[.pointer (some ⟨px, 0, none⟩)] w fun en w' => (∃ ao cap, en = .returned (.tuple #[.slice ao (doneB xs ex).length cap, .int .i64 ex]) ∧ IntsAt .u8 w ao (doneB xs ex)) ∧ Below w.heap.size w w' := by
  obtain ⟨v, u, _, h2, _⟩ := h
  obtain ⟨ao, cap, rfl⟩ := enc_form h2
  exact refdone_any px ao cap xs ex w h2
theorem EE.new {W w w' : World} (hb : Below W.heap.size W w) (hw : w' = w.alloc (.cells #[.slice none 0 0, .int .i64 0] 66)) : EE W (w'.alloc (.cells #[.slice none 0 0, .int .i64 0] 43)) w.heap.size [] 0 w'.heap.size [] 0 := by
  subst hw
  have hs := hb.size
  refine ⟨_, _, (enc_new w _).keep (Keeps.of_below (S := fun _ => False) ((Below.refl _ _).alloc (Nat.le_refl _) _)) (fun _ _ f => f), enc_new _ _, (hb.alloc hs _).alloc (by simp; omega) _, ⟨hs, by simp; omega⟩, (fun k hk => by cases hk), (fun k hk => by cases hk), ?_⟩
  rintro k (rfl | hk) (hx | hx)
  · simp at hx
  · cases hx
  · cases hk
  · cases hk

/-- What an operation writes, and how long. -/
theorem encNum_len8 (bs : List Int) (e n size : Int) : (encNum bs e n size).1.length ≤ bs.length + 8 := by
  unfold encNum
  split
  · split
    · rename_i h
      have : 1 ≤ size ∧ size ≤ 8 := Decidable.byContradiction fun hc => by rw [fitsB_not n size hc] at h; cases h
      simp [putB_length]; omega
    · simp
  · simp
theorem refNum_len8 (bs : List Int) (e n size : Int) : (refNum bs e n size).1.length ≤ bs.length + 8 := by
  unfold refNum
  split
  · rename_i h
    have : 1 ≤ size ∧ size ≤ 8 := Decidable.byContradiction fun hc => by rw [fitsB_not n size hc] at h; cases h
    simp [putB_length]; omega
  · simp
theorem encBytes_len8 (bs : List Int) (e : Int) (zs : List Int) : (encBytes bs e zs).1.length ≤ bs.length + 8 + zs.length := by
  unfold encBytes
  split
  · split <;> simp [putB_length] <;> omega
  · simp; omega
theorem refBytes_len8 (bs : List Int) (e : Int) (zs : List Int) : (refBytes bs e zs).1.length ≤ bs.length + 8 + zs.length := by
  unfold refBytes
  split <;> simp [putB_length] <;> omega
theorem num_agree (bs xs : List Int) (e n size : Int) (h : e = 0 → bs = xs) : (encNum bs e n size).2 = (refNum xs e n size).2 ∧ ((encNum bs e n size).2 = 0 → (encNum bs e n size).1 = (refNum xs e n size).1) := by
  by_cases he : e = 0
  · obtain rfl := h he
    subst he
    by_cases hf : fitsB n size = true
    · simp [encNum, refNum, hf]
    · simp [encNum, refNum, hf, refFail]
  · by_cases hf : fitsB n size = true
    · simp [encNum, refNum, hf, he]
    · simp [encNum, refNum, hf, refFail, he]
theorem bytes_agree (bs xs : List Int) (e : Int) (zs : List Int) (h : e = 0 → bs = xs) : (encBytes bs e zs).2 = (refBytes xs e zs).2 ∧ ((encBytes bs e zs).2 = 0 → (encBytes bs e zs).1 = (refBytes xs e zs).1) := by
  by_cases he : e = 0
  · obtain rfl := h he
    subst he
    by_cases hf : 65535 < zs.length
    · simp [encBytes, refBytes, hf, refFail]
    · simp [encBytes, refBytes, hf]
  · by_cases hf : 65535 < zs.length
    · simp [encBytes, refBytes, hf, refFail, he]
    · simp [encBytes, refBytes, hf, he]

theorem encNum_in (bs : List Int) (e n size : Int) (h : InB bs) : InB (encNum bs e n size).1 := by
  unfold encNum
  split
  · split
    · intro z hz
      rcases List.mem_append.1 hz with hz | hz
      · exact h z hz
      · exact putB_in _ _ z hz
    · exact h
  · exact h
theorem encBytes_in (bs : List Int) (e : Int) (zs : List Int) (h : InB bs) (hz : InB zs) : InB (encBytes bs e zs).1 := by
  unfold encBytes
  split
  · split
    · exact h
    · intro z hm
      rcases List.mem_append.1 hm with hm | hm
      · rcases List.mem_append.1 hm with hm | hm
        · exact h z hm
        · exact putB_in _ _ z hm
      · exact hz z hm
  · exact h

set_option maxRecDepth 100000 in
set_option maxHeartbeats 4000000 in
theorem writes_core (W : World) (to_ : Option Addr) (rs : List WOp) (n cap : Nat) (hn : rs.length = n) (HT0 : OpsAt W to_ rs) (hcap : n ≤ cap) (hcm : cap ≤ maxLen) :
    Calls Try.prog 9 #[.slice to_ n cap] W fun e w' => e = .returned (.bool true) ∧ Below W.heap.size W w' := by
  have hb0 := Lib.hid (Below.refl W.heap.size W)
  have HT := Lib.hid HT0
  have HN := Lib.hid hn
  clear HT0 hn
  go_enter Try.func9, Try.ntmps9
  go_wp2_with fail
  refine (first4 W _ hb0.out).mono ?_
  rintro e w1 ⟨rfl, hb1⟩
  have HB1 := Lib.hid hb1
  clear hb1
  go_wp2_with fail
  refine (newEnc _).mono ?_
  rintro e w2 ⟨rfl, hw2⟩
  have H2 := Lib.hid (EE.new HB1.out hw2)
  clear hw2
  go_wp2_with fail
  have HFW := fun w hw => Lib.hid (few4_any to_ rs n cap w HN.out (HT.out.below hw) hcap hcm)
  by_cases hf : fewB (rs.map (fun o => o.b.zs.length)) 200 200000 = true
  · obtain ⟨f1, f2⟩ := few_facts _ _ _ hf
    have f1' : n ≤ 200 := by rw [← HN.out]; simpa using f1
    have HSUM : Hid (∀ k, ((rs.map (fun o => o.b.zs.length)).take k).sum ≤ 200000) := Lib.hid (fun k => by
      have h := congrArg List.sum (List.take_append_drop k (rs.map (fun o => o.b.zs.length)))
      rw [List.sum_append] at h
      omega)
    clear f1 f2
    generalize w2.alloc (.cells #[.slice none 0 0, .int .i64 0] 43) = w3 at *
    have HB3 := Lib.hid H2.out.base
    go_wp2_with fail
    refine (HFW w3 HB3.out).out.mono ?_
    rintro e w4 ⟨rfl, rfl⟩
    rw [hf]
    clear HFW hf
    go_wp2_with fail
    go_loopw [5] (fun i wr => ∃ k : Nat, ∃ bs xs : List Int, ∃ e : Int, k ≤ n ∧ i = .int .i64 k ∧ EE W wr w1.heap.size bs e w2.heap.size xs e ∧ ((e = 0 → bs = xs) ∧ InB bs) ∧ bs.length ≤ 8 * k + ((rs.map (fun o => o.b.zs.length)).take k).sum ∧ xs.length ≤ 8 * k + ((rs.map (fun o => o.b.zs.length)).take k).sum) (fun i _ => n - (intOf i).toNat)
    case atStart => exact ⟨0, [], [], 0, Nat.zero_le _, rfl, H2.out, ⟨fun _ => rfl, fun z hz => by cases hz⟩, Nat.zero_le _, Nat.zero_le _⟩
    case round =>
      obtain ⟨k, bs, xs, e1, hk, rfl, hE, hag, hl1, hl2⟩ := hrel
      have HE := Lib.hid hE
      have HG := Lib.hid hag
      clear hag
      have hs1 := HSUM.out k
      by_cases hlt : k < n
      · have hkb : k < rs.length := by rw [HN.out]; exact hlt
        have hs2 := HSUM.out (k + 1)
        have HSS := Lib.hid (sum_take_succ (rs.map (fun o => o.b.zs.length)) k (by simpa using hkb))
        have HC : Hid (∃ b off, to_ = some ⟨b, off, none⟩ ∧ ∀ w', Below W.heap.size W w' → (w'.cell? ⟨b, off + k * 4, none⟩ = some (.int .i64 rs[k].k) ∧ w'.cell? ⟨b, off + k * 4 + 1, none⟩ = some (.int .i64 rs[k].n) ∧
            w'.cell? ⟨b, off + k * 4 + 2, none⟩ = some (.int .i64 rs[k].z) ∧ w'.cell? ⟨b, off + k * 4 + 3, none⟩ = some (.slice rs[k].b.ao rs[k].b.zs.length rs[k].b.cap))) := Lib.hid (by
          obtain ⟨b, off, h1, h2⟩ := op_cell HT.out k hkb
          refine ⟨b, off, h1, fun w' hb => ?_⟩
          obtain ⟨b', off', h1', h2'⟩ := op_cell (HT.out.below hb) k hkb
          rw [h1] at h1'; cases h1'; exact h2')
        have HI : Hid (∀ w', Below W.heap.size W w' → IntsAt .u8 w' rs[k].b.ao rs[k].b.zs) := Lib.hid (fun w' hb => ints_below (op_ok HT.out k hkb).2.1 hb)
        have HF := Lib.hid (op_ok HT.out k hkb).2.2.2.2.2
        have HFI := Lib.hid (op_ok HT.out k hkb).2.2.1
        have hlen : ((rs.map (fun o => o.b.zs.length)).take (k + 1)).sum = ((rs.map (fun o => o.b.zs.length)).take k).sum + rs[k].b.zs.length := by rw [HSS.out]; simp
        have HL2 := Lib.hid hlen
        generalize ((rs.map (fun o => o.b.zs.length)).take k).sum = S1 at *
        generalize rs[k] = o at *
        clear HSS hlen
        obtain ⟨b, off, rfl, hc⟩ := HC.out
        obtain ⟨c0, c1, c2, c3⟩ := hc wr hE.base
        have HC12 : Hid (∀ w', Below W.heap.size W w' → (w'.cell? ⟨b, off + k * 4 + 1, none⟩ = some (.int .i64 o.n) ∧ w'.cell? ⟨b, off + k * 4 + 2, none⟩ = some (.int .i64 o.z))) := Lib.hid (fun w' hb => ⟨(hc w' hb).2.1, (hc w' hb).2.2.1⟩)
        have HC3 : Hid (∀ w', Below W.heap.size W w' → w'.cell? ⟨b, off + k * 4 + 3, none⟩ = some (.slice o.b.ao o.b.zs.length o.b.cap)) := Lib.hid (fun w' hb => (hc w' hb).2.2.2)
        have hzl : o.b.zs.length ≤ 200000 := by have := HL2.out; omega
        clear hs2
        clear hc HC
        by_cases hk0 : o.k = 0
        · have hk1 : (o.k == 0) = true := by simp [hk0]
          have HA := Lib.hid (num_agree bs xs e1 o.n o.z HG.out.1)
          clear hk0 c3 hE
          go_wp2_with fail
          go_region_with (go_at_call 21; refine (HE.out.drew.num o.n o.z (by omega)).mono ?_; rintro e w4 ⟨rfl, h4⟩; have H4 := Lib.hid h4; obtain ⟨d1, d2⟩ := HC12.out w4 h4.base; clear h4)
          all_goals
            go_wp2_with fail
            go_region_with (go_at_call 34; refine (H4.out.drew.xnum o.n o.z (by omega)).mono ?_; rintro e w5 ⟨rfl, h5⟩; have H5 := Lib.hid h5; clear h5)
            all_goals
              go_wp2
              go_roundw
              case rel => exact ⟨k + 1, _, _, _, by omega, by go_num, HA.out.1 ▸ H5.out, ⟨HA.out.2, encNum_in bs e1 o.n o.z HG.out.2⟩, by have := encNum_len8 bs e1 o.n o.z; have := HL2.out; omega, by have := refNum_len8 xs e1 o.n o.z; have := HL2.out; omega⟩
              case measure => simp [intOf]; omega
        · have hk1 : (o.k == 0) = false := by simp [hk0]
          have HA := Lib.hid (bytes_agree bs xs e1 o.b.zs HG.out.1)
          clear hk0 c1 c2
          go_wp2_with fail
          refine (HE.out.bytes _ _ _ _ rfl (HI.out wr hE.base) HF.out (by omega)).mono ?_
          rintro e w4 ⟨rfl, h4⟩
          have H4 := Lib.hid h4
          have d3 := HC3.out w4 h4.base
          have d4 := HI.out w4 h4.base
          clear h4 hE
          go_wp2_with fail
          refine (H4.out.xbytes _ _ _ _ rfl d4 HF.out (by omega)).mono ?_
          rintro e w5 ⟨rfl, h5⟩
          have H5 := Lib.hid h5
          clear h5
          go_wp2
          go_roundw
          case rel => exact ⟨k + 1, _, _, _, by omega, by go_num, HA.out.1 ▸ H5.out, ⟨HA.out.2, encBytes_in bs e1 o.b.zs HG.out.2 HFI.out⟩, by have := encBytes_len8 bs e1 o.b.zs; have := HL2.out; omega, by have := refBytes_len8 xs e1 o.b.zs; have := HL2.out; omega⟩
          case measure => simp [intOf]; omega
      · obtain rfl : k = n := by omega
        have HD := Lib.hid (show doneB xs e1 = doneB bs e1 by
          by_cases h0 : e1 = 0
          · rw [HG.out.1 h0]
          · simp [doneB, h0])
        have HDI : Hid (InB (doneB bs e1)) := Lib.hid (by unfold doneB; split; exact HG.out.2; intro z hz; cases hz)
        have HBW := Lib.hid hE.base
        clear hlt hE
        go_wp2_with fail
        refine (HE.out.done (by omega)).mono ?_
        rintro e w5 ⟨ao1, cap1, rfl, hr⟩
        have HE5 := Lib.hid (HE.out.below hr.2.1)
        have HI5 := Lib.hid (owns_at hr.1).2.1
        clear hr
        go_wp2_with fail
        refine HE5.out.xdone.mono ?_
        rintro e w6 ⟨⟨ao2, cap2, rfl, hi6⟩, hb6⟩
        rw [HD.out] at hi6 ⊢
        have HI6 := Lib.hid (ints_below hi6 hb6)
        have HI5b := Lib.hid (ints_below HI5.out hb6)
        have HB6 := Lib.hid (HE5.out.base.trans (hb6.mono HE5.out.base.size))
        clear hi6 hb6
        generalize doneB bs e1 = R at *
        go_wp2_with fail
        refine (first4_any w6).mono ?_
        rintro e w7 ⟨rfl, hb7⟩
        have HI7 := Lib.hid (ints_below HI5b.out hb7)
        have HI8 := Lib.hid (ints_below HI6.out hb7)
        have HB7 := Lib.hid (HB6.out.trans (hb7.mono HB6.out.size))
        clear hb7
        go_wp2_with fail
        refine (bytes_eq ao1 ao2 R R _ _ _ _ _ rfl rfl HI7.out HI8.out HDI.out HDI.out).mono ?_
        rintro e w8 ⟨rfl, rfl⟩
        rw [eqB_self]
        go_wp2
        go_ret
        exact ⟨rfl, HB7.out⟩
  · have hf' : fewB (rs.map (fun o => o.b.zs.length)) 200 200000 = false := by simpa using hf
    clear hf
    generalize w2.alloc (.cells #[.slice none 0 0, .int .i64 0] 43) = w3 at *
    have HB3 := Lib.hid H2.out.base
    go_wp2_with fail
    refine (HFW w3 HB3.out).out.mono ?_
    rintro e w4 ⟨rfl, rfl⟩
    go_wp2_with (go_at_call 19; refine (first4 W _ HB3.out).mono ?_; rintro e w8 ⟨rfl, hb⟩)
    go_ret
    exact ⟨rfl, hb⟩

theorem walk_wireWrites (W : World) (ao : Option Addr) (rs : List WOp) (n cap : Nat) (hn : rs.length = n) (h : OpsAt W ao rs) (hcap : n ≤ cap) (hcm : cap ≤ maxLen) :
    Calls Try.prog 9 #[.slice ao n cap] W fun e w' => e = .returned (.bool true) ∧ Below W.heap.size W w' := writes_core W ao rs n cap hn h hcap hcm

/-! ### The row's step for WireWrites: the frame. -/
theorem wireWrites_own : ownKnob Try.prog.godebug = none := by kernel_rfl
theorem wireWrites_laidOut : laidOutB Try.prog = true := by kernel_rfl
set_option maxRecDepth 100000 in
theorem wireWrites_lifted (os : Os) (started : os.Started) (H : Type) (enc : TypeId × Value → H) :
    ReturnsInHanded {} Try.checked os 9 .any (Rows.wireWritesSpec.pre6 enc Try.prog Try.f9 Rows.wireWritesRow.domain false) (Rows.wireWritesSpec.post enc Try.prog Try.f9 false true false false) := by
  refine returnsInHanded_of_change (C := Try.checked) wireWrites_own started (by kernel_rfl) Try.func9
    (ChangeSpec.witness6 (enc := enc) (C := Try.checked) false ⟨#[], #[.slice none 0 0], []⟩ 8 (by kernel_rfl) (by kernel_rfl) (by kernel_rfl) (by kernel_rfl)) ?_
  intro W base args ds gs before hval0 hW hcnd _
  have hval : ∀ (j : Nat) t v, Try.f9.params[j]? = some t → args[j]? = some v → Value.okWide Try.prog W .any base t v := hval0
  have hW' := hW
  obtain ⟨p, q, hA0, hV, rfl, hfz, hnd⟩ := hW
  have hA : DataW.TrodAll enc Try.prog W 0 (fun _ => true) true Try.f9.params.toList args.toList ds p := hA0
  rw [Try.params9] at hA hval
  obtain ⟨v0, vs0, d0, ds0, p0, q0, hargs, rfl, rfl, h0, r0⟩ := trodAll_cons hA
  obtain ⟨rfl, rfl, rfl⟩ := trodAll_nil r0
  obtain rfl : args = #[v0] := by cases args; simp_all
  obtain ⟨rfl, rfl⟩ := trodVars_none hV
  have k0 := h0
  have lt0 : ∀ x ∈ p0, x.block < W.heap.size := by obtain ⟨m, hm⟩ := k0; exact DataW.trod_lt m _ _ _ hm
  obtain ⟨ao0, len0, cap0, rfl⟩ := okWide_slice Try.underlying40 (hval 0 40 v0 rfl rfl)
  obtain ⟨z0, hl0, w0, hc0, wf0⟩ := ops4_of h0
  clear hA0 hval0
  refine (walk_wireWrites W ao0 z0 len0 cap0 hl0.symm w0 hc0 wf0).mono fun e W' ⟨he, bel⟩ => ?_
  subst he
  exact ⟨_, rfl, _, _, _, [], _, [], hW', trodAll_mk1 (shut_bool Try.underlying4 _), (trodAll_cons_mk (Below.trod wireWrites_laidOut (by kernel_rfl) (of_decide_eq_true (by kernel_rfl)) k0 bel lt0) trodAll_mk0), rfl, bel.frame _, fun h => by cases h⟩

theorem wireWrites_over : Rows.wireWritesRow.holds Try.pinned (OpenSpec.ofChange Rows.wireWritesSpec) :=
  OpenClaim.holds_of_wide 9 Try.f9 rfl rfl rfl rfl rfl rfl rfl ⟨rfl, rfl, rfl, rfl, rfl⟩ rfl rfl rfl rfl rfl (by kernel_rfl) Try.func9 (by kernel_rfl)
    (of_decide_eq_true (by kernel_rfl)) (by unfold Func.isWrapper; first | (rw [if_pos (by decide +kernel)]; kernel_rfl) | (rw [if_neg (by decide +kernel)]; exact ⟨rfl, rfl⟩))
    (fun os started H enc _ => wireWrites_lifted os started H enc)

/-- The statement. -/
theorem wireWrites_holds : Rows.WireWritesSaid := wireWrites_over
#print axioms wireWrites_holds
end Go.Proofs.Ytnohdbhkepdjbaa
