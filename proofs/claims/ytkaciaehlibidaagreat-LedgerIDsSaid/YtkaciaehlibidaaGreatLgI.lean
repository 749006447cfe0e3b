/- Contracts of package wire's decoder. Contracts of package wire's decoder: NewDec, Num, Bytes, Left, Err, End. Contracts of package wire's decoder: Bytes, NewDec, Left, Err, End. Contracts of package wire's decoder: NewDec, Left, Err, End; of cflref.CopyBytes. Plain facts: what was laid by the encoder is read by the decoder; what is cut is not. Package req's reader, plainly: what was laid is read as it was. Batches and answers, plainly: what may be laid, its bytes, and that these are read as it was. -/
import Derived.Test.YtkaciaehlibidaaGreatLgH
import Derived.Test.YtkaciaehlibidaaGreatLgB
import Derived.Test.YtkaciaehlibidaaGreatReq8
import Derived.Test.YtkaciaehlibidaaGreatReqp
namespace Go.Proofs.YtkaciaehlibidaaGreat
open Go.RowKit
set_option linter.unusedVariables false
set_option linter.unusedSimpArgs false

def valB (zs : List Int) : Int := zs.foldl (fun n c => n * 256 + c) 0
theorem valB_snoc (zs : List Int) (c : Int) : valB (zs ++ [c]) = valB zs * 256 + c := by simp [valB]
theorem valB_acc : ∀ (zs : List Int) (a : Int) (j : Nat), InB zs → 0 ≤ a → a < 256 ^ j → 0 ≤ zs.foldl (fun n c => n * 256 + c) a ∧ zs.foldl (fun n c => n * 256 + c) a < 256 ^ (j + zs.length)
  | [], a, j, _, h0, h1 => ⟨h0, by simpa using h1⟩
  | c :: zs, a, j, h, h0, h1 => by
    have hc := h c (by simp)
    have h2 : a * 256 + c < 256 ^ (j + 1) := by rw [Int.pow_succ]; omega
    have := valB_acc zs (a * 256 + c) (j + 1) (fun z hz => h z (by simp [hz])) (by omega) h2
    rw [List.foldl_cons, List.length_cons, show j + (zs.length + 1) = j + 1 + zs.length by omega]
    exact this
theorem valB_in (zs : List Int) (h : InB zs) : 0 ≤ valB zs ∧ valB zs < 256 ^ zs.length := by
  have := valB_acc zs 0 0 h (by omega) (by decide)
  rwa [Nat.zero_add] at this
theorem pow256 (k : Nat) (h : k ≤ 7) : (256 : Int) ^ k ≤ 72057594037927936 := by
  have := Nat.pow_le_pow_right (n := 256) (by decide) h
  have e : ((256 ^ k : Nat) : Int) = (256 : Int) ^ k := by rw [Int.natCast_pow]; rfl
  omega
def numF (zs : List Int) (size : Int) : Int × Int :=
  if mayB size then (if (zs.length : Int) < size then (0, 2) else if MA < valB (zs.take size.toNat) then (0, 2) else (valB (zs.take size.toNat), 0)) else (0, 1)

theorem or_byte (x c : Int) (hx : 0 ≤ x) (hx2 : x < 72057594037927936) (hc : 0 ≤ c ∧ c ≤ 255) : bits .or .u64 (x * 256) c = x * 256 + c := by
  rw [u64_or _ _ (by omega) (by omega) hc.1 (by omega)]
  have e : (x * 256).toNat ||| c.toNat = (x * 256).toNat + c.toNat := by
    have := @Nat.two_pow_add_eq_or_of_lt 8 c.toNat (by omega) x.toNat
    rw [show (x * 256).toNat = 2 ^ 8 * x.toNat by omega]
    exact this.symm
  rw [e]; omega

theorem ints_cell {k : IntKind} {w : World} {ao : Option Addr} {zs : List Int} (h : IntsAt k w ao zs) (i : Nat) (hi : i < zs.length) : ∃ b off, ao = some ⟨b, off, none⟩ ∧ w.cell? ⟨b, off + i, none⟩ = some (.int k zs[i]) := by
  rcases h with rfl | ⟨b, off, h1, h2⟩
  · simp at hi
  · exact ⟨b, off, h1, by rw [h2 i hi]; simp [List.getD, hi]⟩

set_option maxHeartbeats 1000000 in
theorem number_any (ao : Option Addr) (zs : List Int) (n cap : Nat) (size : Int) (w : World) (hn : zs.length = n) (h : IntsAt .u8 w ao zs) (hB : InB zs) (hcap : n ≤ cap) :
    Calls Tryz.prog 74 #[.slice ao n cap, .int .i64 size] w fun e w' => e = .returned (.tuple #[.int .i64 (numF zs size).1, .int .i64 (numF zs size).2]) ∧ w = w' := by
  by_cases hm : mayB size = true
  · have hm' := hm
    simp only [mayB, decide_eq_true_eq] at hm'
    obtain ⟨s, rfl⟩ := Int.eq_ofNat_of_zero_le (show 0 ≤ size by omega)
    obtain ⟨hs1, hs2⟩ := hm'
    by_cases hl : (n : Int) < (s : Int)
    · have HF := Lib.hid (show numF zs s = (0, 2) by simp [numF, hm, hn]; omega)
      clear h hB hn
      go_enter Tryz.func74, Tryz.ntmps74
      go_wp2_with (go_at_call 68; refine (may_any _ _).mono ?_; rintro e w' ⟨rfl, rfl⟩)
      go_ret2
      exact ⟨ret_two (congrArg Prod.fst HF.out).symm (congrArg Prod.snd HF.out).symm, rfl⟩
    · have HF := Lib.hid (show numF zs s = if MA < valB (zs.take s) then (0, 2) else (valB (zs.take s), 0) by simp [numF, hm, hn, hl])
      have HBX := Lib.hid hB
      have HI := Lib.hid h
      have HN := Lib.hid hn
      have hle : (s : Int) ≤ (n : Int) := by omega
      have hle2 : (s : Int) ≤ (cap : Int) := by omega
      clear h hB hn hl
      go_enter Tryz.func74, Tryz.ntmps74
      go_wp2_with (go_at_call 68; refine (may_any _ _).mono ?_; rintro e w' ⟨rfl, rfl⟩)
      go_loop [6, 20] (fun t i => ∃ k : Nat, k ≤ s ∧ i = .int .i64 k ∧ t = .int .u64 (valB (zs.take k))) (fun _ i => s - (intOf i).toNat)
      case atStart => exact ⟨0, Nat.zero_le _, rfl, rfl⟩
      case round =>
        obtain ⟨k, hk, rfl, rfl⟩ := hrel
        have hv := valB_in (zs.take k) (fun z hz => HBX.out z (List.mem_of_mem_take hz))
        rw [List.length_take, Nat.min_eq_left (by have := HN.out; omega)] at hv
        obtain ⟨hv1, hv2⟩ := hv
        by_cases hlt : k < s
        · have hkn : k < zs.length := by have := HN.out; omega
          obtain ⟨b, off, ha, hc⟩ := ints_cell HI.out k hkn
          have hcb := HBX.out zs[k] (List.getElem_mem hkn)
          have HS := Lib.hid (show valB (zs.take (k + 1)) = valB (zs.take k) * 256 + zs[k] by rw [List.take_succ_eq_append_getElem hkn, valB_snoc])
          have hp := pow256 k (by omega)
          have h56 : valB (zs.take k) < 72057594037927936 := by omega
          have hor := or_byte (valB (zs.take k)) zs[k] hv1 h56 hcb
          have hsh : IntKind.u64.wrap (valB (zs.take k) * 256) = valB (zs.take k) * 256 := by rw [IntKind.wrap_u64]; omega
          have hcu : IntKind.u64.wrap zs[k] = zs[k] := by rw [IntKind.wrap_u64]; omega
          obtain ⟨hc1, hc2⟩ := hcb
          generalize valB (zs.take k) = x at *
          generalize zs[k] = c at *
          subst ha
          clear hp hv2 hkn
          go_wp2
          go_round
          case rel => exact ⟨k + 1, by omega, by go_num, by rw [HS.out]⟩
          case measure => simp [intOf]; omega
        · obtain rfl : k = s := by omega
          have hw : valB (zs.take k) < 18446744073709551616 := by
            rcases Nat.lt_or_ge k 8 with h | h
            · have := pow256 k (by omega); omega
            · obtain rfl : k = 8 := by omega
              have : (256 : Int) ^ 8 = 18446744073709551616 := by decide
              omega
          have hF := HF.out
          unfold MA at hF
          generalize valB (zs.take k) = x at *
          clear hv2
          by_cases hx : 4611686018427387904 < x
          · rw [if_pos hx] at hF
            have HF2 := Lib.hid hF
            clear hF
            go_wp2
            go_ret2
            exact ⟨ret_two (congrArg Prod.fst HF2.out).symm (congrArg Prod.snd HF2.out).symm, rfl⟩
          · rw [if_neg hx] at hF
            have HF2 := Lib.hid hF
            clear hF
            go_wp2
            go_ret2
            exact ⟨ret_two (congrArg Prod.fst HF2.out).symm (congrArg Prod.snd HF2.out).symm, rfl⟩
  · simp at hm
    have HF := Lib.hid (show numF zs size = (0, 1) by simp [numF, hm])
    clear h hB hn
    go_enter Tryz.func74, Tryz.ntmps74
    go_wp2_with (go_at_call 68; refine (may_any _ _).mono ?_; rintro e w' ⟨rfl, rfl⟩)
    go_ret2
    exact ⟨ret_two (congrArg Prod.fst HF.out).symm (congrArg Prod.snd HF.out).symm, rfl⟩

/-- A decoder: what was not read, and the error, in block p; the bytes lie in block g, which it does not write. -/
def DecAt (T : TypeId) (w : World) (p g : Nat) (zs : List Int) (e : Int) : Prop :=
  ∃ ao cap, w.heap[p]? = some (.cells #[.slice ao zs.length cap, .int .i64 e] T (0, 0)) ∧ IntsAt .u8 w ao zs ∧ zs.length ≤ cap ∧ cap ≤ maxLen ∧ InB zs ∧ zs.length ≤ 140737488355328 ∧ (zs = [] ∨ ∀ a, ao = some a → a.block = g) ∧ g ≠ p
def DecPost (T : TypeId) (w : World) (p g : Nat) (zs : List Int) (e : Int) (w' : World) : Prop := DecAt T w' p g zs e ∧ Keeps (fun k => k = p) w w'
def decNum (zs : List Int) (e size : Int) : Int × List Int × Int :=
  if e = 0 then (if (numF zs size).2 = 0 then ((numF zs size).1, zs.drop size.toNat, 0) else (0, zs, (numF zs size).2)) else (0, zs, e)

theorem DecAt.keep {T : TypeId} {w w' : World} {p g : Nat} {zs : List Int} {e : Int} {S : Nat → Prop} (h : DecAt T w p g zs e) (hk : Keeps S w w') (hp : ¬ S p) (hg : zs = [] ∨ ¬ S g) : DecAt T w' p g zs e := by
  obtain ⟨ao, cap, h1, h2, h3, h4, h5, h6, h7, h8⟩ := h
  refine ⟨ao, cap, (hk.block p (blk_lt h1) hp).trans h1, ?_, h3, h4, h5, h6, h7, h8⟩
  rcases hg with hg | hg
  · exact Or.inl hg
  · rcases h7 with h7 | h7
    · exact Or.inl h7
    · exact h2.same (fun a ha hl => hk.block _ hl (by rw [h7 a ha]; exact hg))
theorem DecAt.lt {T : TypeId} {w : World} {p g : Nat} {zs : List Int} {e : Int} (h : DecAt T w p g zs e) : p < w.heap.size := by
  obtain ⟨ao, cap, h1, _⟩ := h; exact blk_lt h1
theorem DecAt.glt {T : TypeId} {w : World} {p g : Nat} {zs : List Int} {e : Int} (h : DecAt T w p g zs e) : zs = [] ∨ g < w.heap.size := by
  obtain ⟨ao, cap, h1, h2, h3, h4, h5, h6, h7, h8⟩ := h
  rcases h2 with h | ⟨b, off, rfl, hc⟩
  · exact Or.inl h
  · by_cases h0 : zs = []
    · exact Or.inl h0
    · have := World.block_lt_of_cell? w _ (hc 0 (List.length_pos_iff.2 h0))
      rcases h7 with h7 | h7
      · exact Or.inl h7
      · have e := h7 _ rfl
        exact Or.inr (by rw [← e]; exact this)
theorem dec_err {T : TypeId} {w : World} {p g : Nat} {zs : List Int} {e : Int} (h : DecAt T w p g zs e) (e' : Int) : DecPost T w p g zs e' (w.setCell ⟨p, 1, none⟩ (.int .i64 e')) := by
  obtain ⟨ao, cap, h1, h2, h3, h4, h5, h6, h7, h8⟩ := h
  refine ⟨⟨ao, cap, by simpa using blk_set h1 1 (.int .i64 e'), by rcases h7 with h7 | h7; exact Or.inl h7; exact h2.same (fun a ha hl => Below.heap_setCell _ _ _ _ (by rw [h7 a ha]; exact h8)), h3, h4, h5, h6, h7, h8⟩, (Keeps.refl (fun k => k = p) _).setCell (p := ⟨p, 1, none⟩) (Or.inl rfl) _⟩
theorem dec_refl {T : TypeId} {w : World} {p g : Nat} {zs : List Int} {e : Int} (h : DecAt T w p g zs e) : DecPost T w p g zs e w := ⟨h, Keeps.refl _ _⟩
theorem dec_cut {T : TypeId} {w : World} {p g : Nat} {zs : List Int} {e : Int} (h : DecAt T w p g zs e) (k : Nat) (hk : k ≤ zs.length) (ao' : Option Addr) (n' cap' : Nat)
    (hv : ∀ ao cap, w.cell? ⟨p, 0, none⟩ = some (.slice ao zs.length cap) → (k = cap ∧ ao' = ao ∧ cap' = 0) ∨ (ao' = ao.map (·.add k) ∧ cap' = cap - k)) (hn' : n' = zs.length - k) :
    DecPost T w p g (zs.drop k) e (w.setCell ⟨p, 0, none⟩ (.slice ao' n' cap')) := by
  obtain ⟨ao, cap, h1, h2, h3, h4, h5, h6, h7, h8⟩ := h
  have c0 := blk_cell h1 0
  simp only [List.getElem?_toArray, List.getElem?_cons_zero] at c0
  have hl : (zs.drop k).length = n' := by simp [hn']
  have h5' : InB (zs.drop k) := fun z hz => h5 z (List.mem_of_mem_drop hz)
  refine ⟨⟨ao', cap', by rw [hl]; simpa using blk_set h1 0 (.slice ao' n' cap'), ?_, ?_, ?_, h5', by simp; omega, ?_, h8⟩, (Keeps.refl (fun k => k = p) _).setCell (p := ⟨p, 0, none⟩) (Or.inl rfl) _⟩
  · rcases h7 with h7 | h7
    · exact Or.inl (by simp [h7])
    have hsame : ∀ a, ao' = some a → a.block = g := by
      rcases hv ao cap c0 with ⟨_, rfl, _⟩ | ⟨rfl, _⟩
      · exact h7
      · intro a ha
        cases hao : ao with
        | none => rw [hao] at ha; cases ha
        | some b =>
          rw [hao] at ha; simp at ha; subst ha
          have := h7 b hao
          unfold Addr.add; split <;> simp_all
    have h2' : IntsAt .u8 w ao' (zs.drop k) := by
      rcases hv ao cap c0 with ⟨h, rfl, _⟩ | ⟨rfl, _⟩
      · exact Or.inl (by simp; omega)
      · rcases h2 with rfl | ⟨b, off, rfl, hc⟩
        · exact Or.inl (by simp)
        · refine Or.inr ⟨b, off + k, by rw [Option.map_some, addr_add], fun i hi => ?_⟩
          simp only [List.length_drop] at hi
          rw [show off + k + i = off + (k + i) by omega, hc (k + i) (by omega)]
          simp [List.getD]
    exact h2'.same (fun a ha hl => Below.heap_setCell _ _ _ _ (by rw [hsame a ha]; exact h8))
  · rcases hv ao cap c0 with ⟨h, _, rfl⟩ | ⟨_, rfl⟩ <;> simp <;> omega
  · rcases hv ao cap c0 with ⟨h, _, rfl⟩ | ⟨_, rfl⟩ <;> omega
  · rcases h7 with h7 | h7
    · exact Or.inl (by simp [h7])
    refine Or.inr ?_
    rcases hv ao cap c0 with ⟨_, rfl, _⟩ | ⟨rfl, _⟩
    · exact h7
    · intro a ha
      cases hao : ao with
      | none => rw [hao] at ha; cases ha
      | some b =>
        rw [hao] at ha; simp at ha; subst ha
        have := h7 b hao
        unfold Addr.add; split <;> simp_all

def NumPost (T : TypeId) (w : World) (p g : Nat) (r : Int × List Int × Int) (e : Ending) (w' : World) : Prop := e = .returned (.int .i64 r.1) ∧ DecPost T w p g r.2.1 r.2.2 w'

set_option maxHeartbeats 1000000 in
theorem dec_num (p g : Nat) (zs : List Int) (e size : Int) (w : World) (h : DecAt 150 w p g zs e) :
    Calls Tryz.prog 40 #[.pointer (some ⟨p, 0, none⟩), .int .i64 size] w (NumPost 150 w p g (decNum zs e size)) := by
  have h' := h
  obtain ⟨ao, cap, h1, h2, h3, h4, h5, h6, h7, h8⟩ := h'
  have c0 := blk_cell h1 0
  have c1 := blk_cell h1 1
  have f0 := blk_frozen h1 0
  have f1 := blk_frozen h1 1
  simp only [List.getElem?_toArray, List.getElem?_cons_zero, List.getElem?_cons_succ] at c0 c1
  by_cases he : e = 0
  · subst he
    have HN := Lib.hid (number_any ao zs zs.length cap size w rfl h2 h5 h3)
    by_cases hr : (numF zs size).2 = 0
    · have HD := Lib.hid (show decNum zs 0 size = ((numF zs size).1, zs.drop size.toNat, 0) by simp [decNum, hr])
      have hsz : ∃ s : Nat, size = s ∧ s ≤ zs.length := by
        unfold numF at hr
        split at hr
        · rename_i hm
          simp only [mayB, decide_eq_true_eq] at hm
          split at hr
          · simp at hr
          · exact ⟨size.toNat, by omega, by omega⟩
        · simp at hr
      obtain ⟨s, rfl, hs⟩ := hsz
      have HC := Lib.hid (fun ao' n' cap' hv hn' => dec_cut h s hs ao' n' cap' hv hn')
      have hi1 : (0 : Int) ≤ (s : Int) := by omega
      have hi2 : (s : Int) ≤ (zs.length : Int) := by omega
      generalize numF zs (s : Int) = r at *
      obtain ⟨r1, r2⟩ := r
      simp only at hr
      subst hr
      clear h h1 h2 h5 h7 h8
      go_enter Tryz.func40, Tryz.ntmps40
      go_wp2_with fail
      refine HN.out.mono ?_
      rintro e w1 ⟨rfl, rfl⟩
      go_wp2
      all_goals
        go_ret
        refine ⟨ret_int (congrArg Prod.fst HD.out).symm, ?_⟩
        rw [HD.out]
        refine HC.out _ _ _ (fun ao2 cap2 hc2 => ?_) (by omega)
        rw [c0] at hc2
        simp only [Option.some.injEq, Value.slice.injEq, true_and] at hc2
        obtain ⟨rfl, rfl⟩ := hc2
        first | exact Or.inr ⟨rfl, rfl⟩ | exact Or.inl ⟨by omega, rfl, by omega⟩
    · have HD := Lib.hid (show decNum zs 0 size = (0, zs, (numF zs size).2) by simp [decNum, hr])
      have HP := Lib.hid (dec_err h (numF zs size).2)
      generalize numF zs size = r at *
      obtain ⟨r1, r2⟩ := r
      have hr' : (r2 != 0) = true := by simpa using hr
      clear h h1 h2 h5 h7 h8 hr
      go_enter Tryz.func40, Tryz.ntmps40
      go_wp2_with fail
      refine HN.out.mono ?_
      rintro e w1 ⟨rfl, rfl⟩
      go_wp2
      go_ret
      exact ⟨ret_int (congrArg Prod.fst HD.out).symm, by rw [HD.out]; exact HP.out⟩
  · have he' : (e != 0) = true := by simp [he]
    have HD := Lib.hid (show decNum zs e size = (0, zs, e) by simp [decNum, he])
    have HP := Lib.hid (dec_refl h)
    clear h h1 h2 h5 h7 h8 he
    go_enter Tryz.func40, Tryz.ntmps40
    go_wp2
    go_ret
    exact ⟨ret_int (congrArg Prod.fst HD.out).symm, by rw [HD.out]; exact HP.out⟩

def decBytes (zs : List Int) (e : Int) : List Int × List Int × Int :=
  if e = 0 then (if (numF zs 2).2 = 0 then (if (zs.length : Int) < 2 + (numF zs 2).1 then ([], zs, 2) else ((zs.drop 2).take (numF zs 2).1.toNat, zs.drop (2 + (numF zs 2).1.toNat), 0)) else ([], zs, (numF zs 2).2)) else ([], zs, e)
def BytesPost (T : TypeId) (w : World) (p g : Nat) (r : List Int × List Int × Int) (e : Ending) (w' : World) : Prop :=
  DecPost T w p g r.2.1 r.2.2 w' ∧ ∃ ao cap, e = .returned (.slice ao r.1.length cap) ∧ w'.ownsRow 0 5 1 (.slice ao r.1.length cap) r.1.length (r.1.map (Value.int .u8)) ∧ ∀ g', (Value.slice ao r.1.length cap).ownBlock = some g' → w.heap.size ≤ g'
theorem num2_in (zs : List Int) (h : InB zs) (h2 : (numF zs 2).2 = 0) : 0 ≤ (numF zs 2).1 ∧ (numF zs 2).1 < 65536 ∧ 2 ≤ zs.length := by
  unfold numF at *
  split at h2
  · split at h2
    · simp at h2
    · split at h2
      · simp at h2
      · rename_i a b c
        rw [if_pos a, if_neg b, if_neg c]
        have := valB_in (zs.take (2 : Int).toNat) (fun z hz => h z (List.mem_of_mem_take hz))
        have hl : (zs.take (2 : Int).toNat).length = 2 := by simp; omega
        rw [hl] at this
        have e : (256 : Int) ^ 2 = 65536 := by decide
        rw [e] at this
        exact ⟨this.1, this.2, by omega⟩
  · simp at h2
theorem bytes_nil {T : TypeId} {w : World} {p g : Nat} {zs : List Int} {e : Int} {w' : World} (h : DecPost T w p g zs e w') : BytesPost T w p g ([], zs, e) (.returned (.slice none 0 0)) w' :=
  ⟨h, none, 0, rfl, World.ownsRow_nil _ _ _ _, fun g hg => by cases hg⟩

theorem bytes_done {T : TypeId} {w w1 : World} {p g : Nat} {zs R : List Int} {m : Nat} (h : DecAt T w1 p g zs 0) (hbl : Below w.heap.size w w1) (hpl : p < w.heap.size) (ao2 : Option Addr) (cap2 : Nat) (hR : R.length = m)
    (ho : w1.ownsRow 0 5 1 (.slice ao2 m cap2) m (R.map (Value.int .u8))) (hf : ∀ g', (Value.slice ao2 m cap2).ownBlock = some g' → w.heap.size ≤ g')
    (k : Nat) (hk : k ≤ zs.length) (ao' : Option Addr) (n' cap' : Nat)
    (hv : ∀ ao cap, w1.cell? ⟨p, 0, none⟩ = some (.slice ao zs.length cap) → (k = cap ∧ ao' = ao ∧ cap' = 0) ∨ (ao' = ao.map (·.add k) ∧ cap' = cap - k)) (hn' : n' = zs.length - k) :
    BytesPost T w p g (R, zs.drop k, 0) (.returned (.slice ao2 m cap2)) (w1.setCell ⟨p, 0, none⟩ (.slice ao' n' cap')) := by
  have hcut := dec_cut h k hk ao' n' cap' hv hn'
  subst hR
  exact ⟨⟨hcut.1, (Keeps.of_below hbl).trans hcut.2 (fun _ h => Or.inl h)⟩, ao2, cap2, rfl,
    ownsRow_same ho (fun g' hg' => Below.heap_setCell _ _ _ _ (by have := hf g' hg'; show g' ≠ p; omega)), hf⟩


def NewDecPost (T : TypeId) (w : World) (zs : List Int) (e : Ending) (w' : World) : Prop :=
  ∃ p g, e = .returned (.pointer (some ⟨p, 0, none⟩)) ∧ DecAt T w' p g zs 0 ∧ Below w.heap.size w w' ∧ w.heap.size ≤ p ∧ w.heap.size ≤ g

theorem dec_new {T : TypeId} {w w1 : World} {ao : Option Addr} {zs : List Int} {cap : Nat} (h : RowAt w (.slice ao zs.length cap) zs w1) (hB : InB zs) (hl : zs.length ≤ 140737488355328) :
    ∃ g, DecAt T (w1.alloc (.cells #[.slice ao zs.length cap, .int .i64 0] T)) w1.heap.size g zs 0 ∧ w.heap.size ≤ g := by
  obtain ⟨ho, hb, hf⟩ := h
  obtain ⟨_, h2, h3, h4⟩ := owns_at ho
  have h2' : IntsAt .u8 (w1.alloc (.cells #[.slice ao zs.length cap, .int .i64 0] T)) ao zs := ints_below h2 ((Below.refl _ _).alloc (Nat.le_refl _) _)
  cases ao with
  | none => exact ⟨w1.heap.size + 1, ⟨none, cap, heap_alloc_new w1 _, h2', h3, h4, hB, hl, Or.inl (by have := h3; have h9 := ints_none h2; exact List.eq_nil_of_length_eq_zero h9), by omega⟩, by have := hb.size; omega⟩
  | some a =>
    have hlt := (ho.lt a.block rfl).2
    exact ⟨a.block, ⟨some a, cap, heap_alloc_new w1 _, h2', h3, h4, hB, hl, Or.inr (fun b hb => by cases hb; rfl), by omega⟩, hf a.block rfl⟩

set_option maxHeartbeats 1000000 in
theorem newDec (ao : Option Addr) (zs : List Int) (n cap : Nat) (w : World) (hn : zs.length = n) (h : IntsAt .u8 w ao zs) (hB : InB zs) (hl : n ≤ 140737488355328) :
    Calls Tryz.prog 39 #[.slice ao n cap] w (NewDecPost 150 w zs) := by
  have HC := Lib.hid (clone_u8 ao zs n cap w hn h hl)
  have HB := Lib.hid hB
  have HL := Lib.hid (show zs.length ≤ 140737488355328 by omega)
  clear h hn hB
  go_enter Tryz.func39, Tryz.ntmps39
  go_wp2_with fail
  refine HC.out.mono ?_
  rintro e w1 ⟨ao2, cap2, rfl, hr⟩
  have HD := Lib.hid (dec_new (T := 150) hr HB.out HL.out)
  have HR := Lib.hid hr.2.1
  clear hr
  go_wp2
  go_ret
  obtain ⟨g, h1, h2⟩ := HD.out
  exact ⟨_, g, rfl, h1, HR.out.alloc HR.out.size _, HR.out.size, h2⟩

def decEnd (zs : List Int) (e : Int) : Int := if e = 0 then (if zs.length = 0 then 0 else 2) else e

set_option maxHeartbeats 400000 in
theorem dec_end (p g : Nat) (zs : List Int) (e : Int) (w : World) (h : DecAt 150 w p g zs e) :
    Calls Tryz.prog 42 #[.pointer (some ⟨p, 0, none⟩)] w fun en w' => en = .returned (.int .i64 (decEnd zs e)) ∧ w = w' := by
  obtain ⟨ao, cap, h1, h2, h3, h4, h5, h6, h7, h8⟩ := h
  have c0 := blk_cell h1 0
  have c1 := blk_cell h1 1
  simp only [List.getElem?_toArray, List.getElem?_cons_zero, List.getElem?_cons_succ] at c0 c1
  clear h1 h2 h5 h7
  by_cases he : e = 0
  · subst he
    by_cases hl : zs.length = 0
    · have HD := Lib.hid (show decEnd zs 0 = 0 by simp [decEnd, hl])
      have hl' : ¬ (0 : Int) < (zs.length : Int) := by omega
      clear hl
      go_enter Tryz.func42, Tryz.ntmps42
      go_wp2
      go_ret
      exact ⟨ret_int HD.out.symm, rfl⟩
    · have HD := Lib.hid (show decEnd zs 0 = 2 by simp [decEnd, hl])
      have hl' : (0 : Int) < (zs.length : Int) := by omega
      clear hl
      go_enter Tryz.func42, Tryz.ntmps42
      go_wp2
      go_ret
      exact ⟨ret_int HD.out.symm, rfl⟩
  · have HD := Lib.hid (show decEnd zs e = e by simp [decEnd, he])
    have he' : (e == 0) = false := by simp [he]
    clear he
    go_enter Tryz.func42, Tryz.ntmps42
    go_wp2
    go_ret
    exact ⟨ret_int HD.out.symm, rfl⟩

theorem foldl_valB (zs : List Int) (a : Int) : zs.foldl (fun n c => n * 256 + c) a = a * 256 ^ zs.length + valB zs := by
  induction zs generalizing a with
  | nil => simp [valB]
  | cons c zs ih =>
    have e1 : valB (c :: zs) = c * 256 ^ zs.length + valB zs := by
      show (c :: zs).foldl (fun n c => n * 256 + c) 0 = _
      rw [List.foldl_cons, ih]; simp
    rw [List.foldl_cons, ih, e1, List.length_cons, Int.pow_succ, Int.add_mul]
    have e : a * 256 * 256 ^ zs.length = a * (256 ^ zs.length * 256) := by rw [Int.mul_assoc, Int.mul_comm 256]
    rw [e]; omega
theorem valB_cons (c : Int) (zs : List Int) : valB (c :: zs) = c * 256 ^ zs.length + valB zs := by
  rw [valB, List.foldl_cons, foldl_valB]; simp
theorem mod_split (n m : Nat) : (n : Int) % ((m : Int) * 256) = (n : Int) % m + m * ((n : Int) / m % 256) := by
  have h := congrArg (fun x : Nat => (x : Int)) (Nat.mod_mul (a := m) (b := 256) (x := n))
  simp only [Int.natCast_add, Int.natCast_mul, Int.natCast_emod, Int.natCast_ediv] at h
  exact h
theorem valB_put (n : Int) (k : Nat) (h : 0 ≤ n) : valB (putB n k) = n % 256 ^ k := by
  obtain ⟨n', rfl⟩ := Int.eq_ofNat_of_zero_le h
  induction k with
  | zero => simp [putB, valB, Int.emod_one]
  | succ k ih =>
    have hp2 : (256 : Int) ^ k = ((256 ^ k : Nat) : Int) := by rw [Int.natCast_pow]; rfl
    have hp3 : (2 : Int) ^ (8 * k) = 256 ^ k := by rw [Int.pow_mul]; rfl
    rw [putB, valB_cons, putB_length, ih, Int.pow_succ]
    unfold byteAt
    rw [IntKind.wrap_u8, hp3, hp2, mod_split]
    rw [Int.mul_comm]; omega
theorem putB_in (n : Int) (s : Nat) : InB (putB n s) := by
  induction s with
  | zero => intro z hz; cases hz
  | succ s ih =>
    intro z hz
    rcases List.mem_cons.1 hz with rfl | h
    · unfold byteAt; rw [IntKind.wrap_u8]; omega
    · exact ih z h
theorem fits_lt (n : Int) (s : Nat) (h : fitsB n s = true) : 1 ≤ s ∧ s ≤ 8 ∧ 0 ≤ n ∧ n ≤ MA ∧ n % 256 ^ s = n := by
  simp only [fitsB, mayB, Bool.and_eq_true, Bool.or_eq_true, decide_eq_true_eq, Int.toNat_natCast] at h
  obtain ⟨⟨⟨h1, h2⟩, h3⟩, h4⟩ := h
  have h3 := (amt_iff n).1 h3
  refine ⟨by omega, by omega, h3.1, h3.2, ?_⟩
  have hp3 : (2 : Int) ^ (8 * s) = 256 ^ s := by rw [Int.pow_mul]; rfl
  rw [hp3] at h4
  rcases h4 with h4 | h4
  · obtain rfl : s = 8 := by omega
    unfold MA at h3
    show n % 18446744073709551616 = n
    omega
  · have hp : (0 : Int) < 256 ^ s := Int.pow_pos (by decide)
    have := Int.ediv_nonneg h3.1 (show (0 : Int) ≤ 256 ^ s by omega)
    have h5 : n / 256 ^ s = 0 := by omega
    have h6 := Int.mul_ediv_add_emod n (256 ^ s)
    rw [h5] at h6; omega
theorem numF_put (n : Int) (s : Nat) (rest : List Int) (h : fitsB n s = true) : numF (putB n s ++ rest) s = (n, 0) := by
  obtain ⟨h1, h2, h3, h4, h5⟩ := fits_lt n s h
  have e1 : mayB (s : Int) = true := by simp [mayB]; omega
  have e2 : ¬ (((putB n s ++ rest).length : Nat) : Int) < (s : Int) := by simp [putB_length]; omega
  have e3 : (putB n s ++ rest).take (s : Int).toNat = putB n s := by
    rw [Int.toNat_natCast]; exact List.take_left' (putB_length n s)
  unfold numF
  rw [if_pos e1, if_neg e2, e3, valB_put n s h3, h5, if_neg (by omega)]
theorem decNum_put (n : Int) (s : Nat) (rest : List Int) (h : fitsB n s = true) : decNum (putB n s ++ rest) 0 s = (n, rest, 0) := by
  unfold decNum
  rw [numF_put n s rest h]
  simp only [if_true, Int.toNat_natCast]
  rw [List.drop_left' (putB_length n s)]
theorem decBytes_put (t rest : List Int) (h : t.length ≤ 65535) : decBytes (putB t.length 2 ++ t ++ rest) 0 = (t, rest, 0) := by
  have hf := fits_len t.length h
  have h2 : numF (putB t.length 2 ++ t ++ rest) 2 = ((t.length : Int), 0) := by
    rw [List.append_assoc]; exact numF_put t.length 2 (t ++ rest) hf
  unfold decBytes
  rw [h2]
  have hl : ¬ (((putB t.length 2 ++ t ++ rest).length : Nat) : Int) < 2 + (t.length : Int) := by simp [putB_length]; omega
  simp only [if_true, if_neg hl, Int.toNat_natCast]
  have e1 : (putB t.length 2 ++ t ++ rest).drop 2 = t ++ rest := by
    rw [List.append_assoc]; exact List.drop_left' (putB_length _ 2)
  have e2 : (putB t.length 2 ++ t ++ rest).drop (2 + t.length) = rest := by
    apply List.drop_left'; simp [putB_length]
  rw [e1, e2, List.take_left' rfl]

def packF (j : Nat) : List (List Int) → List Int
  | [] => []
  | t :: ts => putB t.length 2 ++ t ++ (putB j 3 ++ packF (j + 1) ts)
def readsF (j : Nat) : List (List Int) → List Int → Int → Bool
  | [], zs, e => decEnd zs e == 0
  | t :: ts, zs, e => eqB (decBytes zs e).1 t && ((decNum (decBytes zs e).2.1 (decBytes zs e).2.2 3).1 == (j : Int)) && readsF (j + 1) ts (decNum (decBytes zs e).2.1 (decBytes zs e).2.2 3).2.1 (decNum (decBytes zs e).2.1 (decBytes zs e).2.2 3).2.2

theorem packF_snoc (j : Nat) (ts : List (List Int)) (t : List Int) : packF j (ts ++ [t]) = packF j ts ++ (putB t.length 2 ++ t ++ putB (j + ts.length : Nat) 3) := by
  induction ts generalizing j with
  | nil => simp [packF]
  | cons x ts ih => simp only [List.cons_append, packF, ih, List.length_cons, List.append_assoc]; rw [show j + 1 + ts.length = j + (ts.length + 1) by omega]
theorem fits3 (j : Nat) (h : j ≤ 1000) : fitsB (j : Int) (3 : Nat) = true := by
  have h1 : amtB (j : Int) = true := (amt_iff _).2 ⟨by omega, by unfold MA; omega⟩
  have h2 : (j : Int) / 2 ^ (8 * ((3 : Nat) : Int).toNat) ≤ 0 := by
    show (j : Int) / 16777216 ≤ 0
    omega
  unfold fitsB
  rw [h1, decide_eq_true h2]
  decide
theorem reads_all (ts : List (List Int)) (j : Nat) (rest : List Int) (hj : j + ts.length ≤ 1000) (hl : ∀ t ∈ ts, t.length ≤ 65535) : readsF j ts (packF j ts ++ rest) 0 = (decEnd rest 0 == 0) := by
  induction ts generalizing j with
  | nil => simp [packF, readsF]
  | cons t ts ih =>
    have e1 : decBytes (packF j (t :: ts) ++ rest) 0 = (t, putB j 3 ++ (packF (j + 1) ts ++ rest), 0) := by
      have := decBytes_put t (putB j 3 ++ (packF (j + 1) ts ++ rest)) (hl t (by simp))
      simp only [packF, List.append_assoc] at this ⊢
      exact this
    have e2 := decNum_put j 3 (packF (j + 1) ts ++ rest) (fits3 j (by simp at hj; omega))
    simp only [readsF, e1]
    rw [show ((3 : Nat) : Int) = 3 from rfl] at e2
    rw [e2]
    simp only [eqB_self, beq_self_eq_true, Bool.true_and]
    exact ih (j + 1) (by simp at hj; omega) (fun t ht => hl t (by simp [ht]))
theorem reads_bad (ts : List (List Int)) (j : Nat) (zs : List Int) (e : Int) (he : e ≠ 0) : readsF j ts zs e = false := by
  induction ts generalizing j with
  | nil => simp [readsF, decEnd, he]
  | cons t ts ih =>
    have e1 : decBytes zs e = ([], zs, e) := by simp [decBytes, he]
    have e2 : decNum zs e 3 = (0, zs, e) := by simp [decNum, he]
    simp only [readsF, e1, e2, ih, Bool.and_false]
theorem decNum_short (zs : List Int) (h : zs.length < 3) : decNum zs 0 3 = (0, zs, 2) := by
  have e : numF zs 3 = (0, 2) := by
    unfold numF; rw [if_pos (by decide), if_pos (by omega)]
  simp [decNum, e]
theorem decBytes_short (t : List Int) (c : Nat) (ht : t.length ≤ 65535) (h : c < 2 + t.length) : decBytes ((putB t.length 2 ++ t).take c) 0 = ([], (putB t.length 2 ++ t).take c, 2) := by
  by_cases hc : c < 2
  · have e : numF ((putB t.length 2 ++ t).take c) 2 = (0, 2) := by
      unfold numF; rw [if_pos (by decide), if_pos (by simp; omega)]
    simp [decBytes, e]
  · have e0 : (putB t.length 2 ++ t).take c = putB t.length 2 ++ t.take (c - 2) := by
      rw [List.take_append, putB_length, List.take_of_length_le (by rw [putB_length]; omega)]
    have e : numF ((putB t.length 2 ++ t).take c) 2 = ((t.length : Int), 0) := by
      rw [e0]; exact numF_put t.length 2 _ (fits_len t.length ht)
    have hl : ((((putB t.length 2 ++ t).take c).length : Nat) : Int) < 2 + (t.length : Int) := by simp [putB_length]; omega
    unfold decBytes
    rw [e]
    simp only [if_true, if_pos hl]
theorem reads_cut (ts : List (List Int)) (j c : Nat) (hj : j + ts.length ≤ 1000) (hl : ∀ t ∈ ts, t.length ≤ 65535) (hc : c < (packF j ts).length) : readsF j ts ((packF j ts).take c) 0 = false := by
  induction ts generalizing j c with
  | nil => simp [packF] at hc
  | cons t ts ih =>
    have ht := hl t (by simp)
    have hjl : j ≤ 1000 := by simp at hj; omega
    by_cases h1 : c < 2 + t.length
    · have e0 : (packF j (t :: ts)).take c = (putB t.length 2 ++ t).take c := by
        simp only [packF]
        rw [List.take_append_of_le_length (by simp [putB_length]; omega)]
      simp only [readsF, e0, decBytes_short t c ht h1]
      have e2 : decNum ((putB t.length 2 ++ t).take c) 2 3 = (0, (putB t.length 2 ++ t).take c, 2) := by simp [decNum]
      simp only [e2, reads_bad ts (j + 1) _ 2 (by decide), Bool.and_false]
    · obtain ⟨d, rfl⟩ : ∃ d, c = 2 + t.length + d := ⟨c - (2 + t.length), by omega⟩
      have hla : (putB t.length 2 ++ t).length = 2 + t.length := by simp [putB_length]
      have e0 : (packF j (t :: ts)).take (2 + t.length + d) = putB t.length 2 ++ t ++ (putB j 3 ++ packF (j + 1) ts).take d := by
        simp only [packF]
        rw [List.take_append, hla, List.take_of_length_le (by rw [hla]; omega)]
        rw [show 2 + t.length + d - (2 + t.length) = d by omega]
      simp only [readsF, e0, decBytes_put t _ ht]
      by_cases h2 : d < 3
      · have e2 := decNum_short ((putB j 3 ++ packF (j + 1) ts).take d) (by simp; omega)
        simp only [e2, reads_bad ts (j + 1) _ 2 (by decide), Bool.and_false]
      · have e3 : (putB j 3 ++ packF (j + 1) ts).take d = putB j 3 ++ (packF (j + 1) ts).take (d - 3) := by
          rw [List.take_append, putB_length, List.take_of_length_le (by rw [putB_length]; omega)]
        have e2 := decNum_put j 3 ((packF (j + 1) ts).take (d - 3)) (fits3 j hjl)
        rw [show ((3 : Nat) : Int) = 3 from rfl] at e2
        rw [e3, e2]
        have := ih (j + 1) (d - 3) (by simp at hj; omega) (fun t ht => hl t (by simp [ht])) (by simp [packF, putB_length] at hc; omega)
        simp only [this, Bool.and_false]

abbrev InS := List Int × Bool
def inBytes (n : Nat) (st : InS) : List Int × InS := if st.1.length < n then (List.replicate n 0, ([], true)) else (st.1.take n, (st.1.drop n, st.2))
def inNum (n : Nat) (st : InS) : Int × InS :=
  if st.1.length < n then (0, ([], true)) else if MA < valB (st.1.take n) then (0, (st.1.drop n, true)) else (valB (st.1.take n), (st.1.drop n, st.2))
def stepIn (r : EV × InS) (c : Int) : EV × InS :=
  match numSign c with
  | some (j, z) => (r.1.setN (inNum z.toNat r.2).1 j, (inNum z.toNat r.2).2)
  | none => (r.1.setT (bytesOf (inBytes 32 r.2).1) (txtSign c), (inBytes 32 r.2).2)
def ev0 : EV := ⟨0, 0, 0, 0, 0, 0, 0, ⟨#[]⟩, ⟨#[]⟩⟩
def evIn (ev : Bool) (st : InS) : EV × InS := (hasN (inNum 1 st).1 ev).foldl stepIn (ev0.setN (inNum 1 st).1 0, (inNum 1 st).2)
def evsIn (ev : Bool) : Nat → InS → List EV × InS
  | 0, st => ([], st)
  | n + 1, st => if st.2 = true then ([], st) else ((evIn ev st).1 :: (evsIn ev n (evIn ev st).2).1, (evsIn ev n (evIn ev st).2).2)
def repIn (st : InS) : (Int × Int) × InS := (((inNum 1 st).1, (inNum 2 (inNum 1 st).2).1), (inNum 2 (inNum 1 st).2).2)
def repsIn : Nat → InS → List (Int × Int) × InS
  | 0, st => ([], st)
  | n + 1, st => if st.2 = true then ([], st) else ((repIn st).1 :: (repsIn n (repIn st).2).1, (repsIn n (repIn st).2).2)

theorem inNum_put (n : Int) (s : Nat) (rest : List Int) (b : Bool) (h : fitsB n s = true) : inNum s (putB n s ++ rest, b) = (n, (rest, b)) := by
  obtain ⟨h1, h2, h3, h4, h5⟩ := fits_lt n s h
  have e2 : ¬ (putB n s ++ rest).length < s := by simp [putB_length]
  have e3 : (putB n s ++ rest).take s = putB n s := List.take_left' (putB_length n s)
  have e4 : (putB n s ++ rest).drop s = rest := List.drop_left' (putB_length n s)
  unfold inNum
  simp only [if_neg e2, e3, e4, valB_put n s h3, h5]
  rw [if_neg (by omega)]
theorem bytesOf_strNums (s : ByteArray) : bytesOf (strNums s) = s := by
  unfold bytesOf strNums
  rw [List.map_map]
  have e : (fun z : Int => UInt8.ofNat z.toNat) ∘ (fun b : UInt8 => (b.toNat : Int)) = id := by
    funext b; simp
  rw [e]
  simp
theorem inBytes_str (s : ByteArray) (rest : List Int) (b : Bool) (h : s.size = 32) : inBytes 32 (strNums s ++ rest, b) = (strNums s, (rest, b)) := by
  have hl : (strNums s).length = 32 := by rw [strNums_length, h]
  unfold inBytes
  simp only [List.length_append, hl]
  rw [if_neg (by omega), List.take_left' hl, List.drop_left' hl]

/-- May an event be laid? -/
def okE (ev : Bool) (e : EV) : Bool :=
  if e.k = 1 then (if ev then fitsB e.f 1 else decide (e.f = 0)) && fitsB e.t 1 && fitsB e.a 1 && fitsB e.n 8 && decide (e.i = 0 ∧ e.d = 0) && (emptyB e.h && emptyB e.s)
  else if e.k = 2 then (if ev then fitsB e.f 1 && fitsB e.i 2 else decide (e.f = 0 ∧ e.i = 0)) && fitsB e.t 1 && fitsB e.a 1 && fitsB e.n 8 && decide (e.h.size = 32) && (fitsB e.d 8 && tickB e.d) && emptyB e.s
  else if e.k = 3 then fitsB e.i 2 && decide (e.s.size = 32) && decide (e.f = 0 ∧ e.t = 0 ∧ e.a = 0 ∧ e.n = 0 ∧ e.d = 0) && emptyB e.h
  else if e.k = 4 then fitsB e.i 2 && decide (e.f = 0 ∧ e.t = 0 ∧ e.a = 0 ∧ e.n = 0 ∧ e.d = 0) && (emptyB e.h && emptyB e.s)
  else false
def partE (e : EV) (c : Int) : List Int := match numSign c with
  | some (j, z) => putB (e.num j) z.toNat
  | none => strNums (e.txt (txtSign c))
def chunkE (ev : Bool) (e : EV) : List Int := putB e.k 1 ++ (hasN e.k ev).flatMap (partE e)
theorem emptyB_eq (s : ByteArray) (h : emptyB s = true) : s = ⟨#[]⟩ := by
  have := (emptyB_iff s).1 h
  cases s with | mk d => 
    congr 1
    exact Array.eq_empty_of_size_eq_zero this

set_option maxHeartbeats 4000000 in
theorem evOut_snd (ev : Bool) (st : List Int × Bool) (e : EV) : (evOut e (hasN e.k ev) st).2 = (st.2 || !okE ev e) := by
  obtain ⟨s1, s2, s3, s4, s5, s6, s7, s8, s9, s10⟩ := sgn
  obtain ⟨f1, f2, f3, f4⟩ := fits_small
  obtain ⟨k, f, t, a, n, i, d, h, s⟩ := e
  have hn := emptyB_nil
  unfold evOut evBody evHead
  by_cases h1 : k = 1
  · subst h1
    cases ev
    all_goals
      simp only [hasN, EV.setN, List.foldl_cons, List.foldl_nil, stepEv, s1, s2, s3, s6, numOut_snd, EV.num, EV.zero, okE, if_true, Bool.false_eq_true, if_false, List.isEmpty_cons, f1]
      by_cases hd : d = 0
      · subst hd
        rw [tickB_0]
        simp only [emptyB]
        by_cases hf : f = 0 <;> cases st.2 <;> cases fitsB t 1 <;> cases fitsB a 1 <;> cases fitsB n 8 <;> simp [hf, Bool.or_assoc]
      · simp only [emptyB]
        cases st.2 <;> cases fitsB t 1 <;> cases fitsB a 1 <;> cases fitsB n 8 <;> cases tickB d <;> simp [hd]
  · by_cases h2 : k = 2
    · subst h2
      unfold emptyB at hn
      cases ev
      all_goals
        simp only [hasN, EV.setN, EV.setT, EV.txt, List.foldl_cons, List.foldl_nil, stepEv, s1, s2, s3, s4, s5, s6, s7, s9, numOut_snd, EV.num, EV.zero, okE, if_true, Bool.false_eq_true, if_false, List.isEmpty_cons, f2, ne32, Int.reduceEq]
        unfold emptyB
        rw [hn]
        cases st.2 <;> cases fitsB t 1 <;> cases fitsB a 1 <;> cases fitsB n 8 <;> cases fitsB d 8 <;> cases tickB d <;> simp [Bool.or_assoc, Bool.or_comm, Bool.or_left_comm]
    · by_cases h3 : k = 3
      · subst h3
        simp only [hasN, EV.setN, EV.setT, EV.txt, List.foldl_cons, List.foldl_nil, stepEv, s4, s8, s10, numOut_snd, EV.num, EV.zero, okE, if_true, Bool.false_eq_true, if_false, List.isEmpty_cons, f3, ne32, Int.reduceEq, Nat.reduceEqDiff]
        unfold emptyB at hn ⊢
        rw [hn]
        by_cases hd : d = 0
        · subst hd
          rw [tickB_0]
          by_cases hs : s.size = 32 <;> cases st.2 <;> cases fitsB i 2 <;> cases h.toList.isEmpty <;> simp [hs]
        · cases st.2 <;> cases fitsB i 2 <;> cases tickB d <;> simp [hd]
      · by_cases h4 : k = 4
        · subst h4
          simp only [hasN, EV.setN, List.foldl_cons, List.foldl_nil, stepEv, s4, numOut_snd, EV.num, EV.zero, okE, if_true, Bool.false_eq_true, if_false, List.isEmpty_cons, f4, Int.reduceEq]
          by_cases hd : d = 0
          · subst hd
            rw [tickB_0]
            simp only [emptyB]
            cases st.2 <;> cases fitsB i 2 <;> simp
          · simp only [emptyB]
            cases st.2 <;> cases fitsB i 2 <;> cases tickB d <;> simp [hd]
        · simp [hasN, h1, h2, h3, h4, okE, numOut_snd]

theorem okE_k (ev : Bool) (e : EV) (h : okE ev e = true) : e.k = 1 ∨ e.k = 2 ∨ e.k = 3 ∨ e.k = 4 := by
  unfold okE at h
  by_cases h1 : e.k = 1
  · exact Or.inl h1
  · by_cases h2 : e.k = 2
    · exact Or.inr (Or.inl h2)
    · by_cases h3 : e.k = 3
      · exact Or.inr (Or.inr (Or.inl h3))
      · by_cases h4 : e.k = 4
        · exact Or.inr (Or.inr (Or.inr h4))
        · simp [h1, h2, h3, h4] at h

set_option maxHeartbeats 4000000 in
theorem evOut_fst (ev : Bool) (st : List Int × Bool) (e : EV) (h : okE ev e = true) : (evOut e (hasN e.k ev) st).1 = st.1 ++ chunkE ev e := by
  obtain ⟨s1, s2, s3, s4, s5, s6, s7, s8, s9, s10⟩ := sgn
  obtain ⟨f1, f2, f3, f4⟩ := fits_small
  have hk := okE_k ev e h
  obtain ⟨k, f, t, a, n, i, d, hh, s⟩ := e
  unfold evOut evBody evHead chunkE
  unfold okE at h
  simp only at hk h
  rcases hk with rfl | rfl | rfl | rfl
  · cases ev <;> simp only [Int.reduceEq, if_true, if_false, Bool.false_eq_true, Bool.and_eq_true, decide_eq_true_eq] at h
    · obtain ⟨⟨⟨⟨⟨h1, h2⟩, h3⟩, h4⟩, h5⟩, h6⟩ := h
      simp only [hasN, EV.setN, List.foldl_cons, List.foldl_nil, stepEv, s1, s2, s3, s6, numOut_fst, EV.num, if_true, Bool.false_eq_true, if_false, f1, h2, h3, h4, List.flatMap_cons, List.flatMap_nil, partE, List.append_assoc, List.append_nil, Int.reduceToNat]
    · obtain ⟨⟨⟨⟨⟨h1, h2⟩, h3⟩, h4⟩, h5⟩, h6⟩ := h
      simp only [hasN, EV.setN, List.foldl_cons, List.foldl_nil, stepEv, s1, s2, s3, s6, numOut_fst, EV.num, if_true, Bool.false_eq_true, if_false, f1, h1, h2, h3, h4, List.flatMap_cons, List.flatMap_nil, partE, List.append_assoc, List.append_nil, Int.reduceToNat]
  · cases ev <;> simp only [Int.reduceEq, if_true, if_false, Bool.false_eq_true, Bool.and_eq_true, decide_eq_true_eq] at h
    · obtain ⟨⟨⟨⟨⟨⟨h1, h2⟩, h3⟩, h4⟩, h5⟩, h6, h6'⟩, h7⟩ := h
      simp only [hasN, EV.setN, EV.setT, EV.txt, List.foldl_cons, List.foldl_nil, stepEv, s1, s2, s3, s4, s5, s6, s7, s9, numOut_fst, EV.num, if_true, Bool.false_eq_true, if_false, f2, h2, h3, h4, h6, List.flatMap_cons, List.flatMap_nil, partE, List.append_assoc, List.append_nil, Int.reduceEq, Int.reduceToNat]
    · obtain ⟨⟨⟨⟨⟨⟨⟨h1, h1'⟩, h2⟩, h3⟩, h4⟩, h5⟩, h6, h6'⟩, h7⟩ := h
      simp only [hasN, EV.setN, EV.setT, EV.txt, List.foldl_cons, List.foldl_nil, stepEv, s1, s2, s3, s4, s5, s6, s7, s9, numOut_fst, EV.num, if_true, Bool.false_eq_true, if_false, f2, h1, h1', h2, h3, h4, h6, List.flatMap_cons, List.flatMap_nil, partE, List.append_assoc, List.append_nil, Int.reduceEq, Int.reduceToNat]
  · simp only [Int.reduceEq, if_true, if_false, Bool.and_eq_true, decide_eq_true_eq] at h
    obtain ⟨⟨⟨h1, h2⟩, h3⟩, h4⟩ := h
    simp only [hasN, EV.setN, EV.setT, EV.txt, List.foldl_cons, List.foldl_nil, stepEv, s4, s8, s10, numOut_fst, EV.num, if_true, Bool.false_eq_true, if_false, f3, h1, List.flatMap_cons, List.flatMap_nil, partE, List.append_assoc, List.append_nil, Int.reduceEq, Nat.reduceEqDiff, Int.reduceToNat]
  · simp only [Int.reduceEq, if_true, if_false, Bool.and_eq_true, decide_eq_true_eq] at h
    obtain ⟨⟨h1, h2⟩, h3⟩ := h
    simp only [hasN, EV.setN, List.foldl_cons, List.foldl_nil, stepEv, s4, numOut_fst, EV.num, if_true, Bool.false_eq_true, if_false, f4, h1, List.flatMap_cons, List.flatMap_nil, partE, List.append_assoc, List.append_nil, Int.reduceEq, Int.reduceToNat]

set_option maxHeartbeats 4000000 in
theorem evIn_chunk (ev : Bool) (e : EV) (rest : List Int) (b : Bool) (h : okE ev e = true) : evIn ev (chunkE ev e ++ rest, b) = (e, (rest, b)) := by
  obtain ⟨s1, s2, s3, s4, s5, s6, s7, s8, s9, s10⟩ := sgn
  obtain ⟨f1, f2, f3, f4⟩ := fits_small
  have hk := okE_k ev e h
  obtain ⟨k, f, t, a, n, i, d, hh, s⟩ := e
  unfold evIn chunkE
  unfold okE at h
  simp only at hk h
  have hn1 : ∀ rest, inNum 1 (putB k 1 ++ rest, b) = (k, (rest, b)) := fun rest => inNum_put k 1 rest b (by rcases hk with rfl | rfl | rfl | rfl <;> assumption)
  simp only [List.append_assoc, hn1]
  rcases hk with rfl | rfl | rfl | rfl
  · cases ev <;> simp only [Int.reduceEq, if_true, if_false, Bool.false_eq_true, Bool.and_eq_true, decide_eq_true_eq] at h
    · obtain ⟨⟨⟨⟨⟨rfl, h2⟩, h3⟩, h4⟩, rfl, rfl⟩, h6, h7⟩ := h
      obtain rfl := emptyB_eq hh h6
      obtain rfl := emptyB_eq s h7
      have g2 := fun rest => inNum_put t 1 rest b h2
      have g3 := fun rest => inNum_put a 1 rest b h3
      have g4 := fun rest => inNum_put n 8 rest b h4
      simp only [hasN, List.flatMap_cons, List.flatMap_nil, partE, s2, s3, s1, EV.num, if_true, Bool.false_eq_true, if_false, List.append_assoc, List.nil_append, Int.reduceToNat, List.foldl_cons, List.foldl_nil, stepIn, EV.setN, ev0, g2, g3, g4]
    · obtain ⟨⟨⟨⟨⟨h1, h2⟩, h3⟩, h4⟩, rfl, rfl⟩, h6, h7⟩ := h
      obtain rfl := emptyB_eq hh h6
      obtain rfl := emptyB_eq s h7
      have g1 := fun rest => inNum_put f 1 rest b h1
      have g2 := fun rest => inNum_put t 1 rest b h2
      have g3 := fun rest => inNum_put a 1 rest b h3
      have g4 := fun rest => inNum_put n 8 rest b h4
      simp only [hasN, List.flatMap_cons, List.flatMap_nil, partE, s2, s3, s1, s6, EV.num, if_true, Bool.false_eq_true, if_false, List.append_assoc, List.nil_append, Int.reduceToNat, List.foldl_cons, List.foldl_nil, stepIn, EV.setN, ev0, g1, g2, g3, g4]
  · cases ev <;> simp only [Int.reduceEq, if_true, if_false, Bool.false_eq_true, Bool.and_eq_true, decide_eq_true_eq] at h
    · obtain ⟨⟨⟨⟨⟨⟨⟨rfl, rfl⟩, h2⟩, h3⟩, h4⟩, h5⟩, h6, h6'⟩, h7⟩ := h
      obtain rfl := emptyB_eq s h7
      have g2 := fun rest => inNum_put t 1 rest b h2
      have g3 := fun rest => inNum_put a 1 rest b h3
      have g4 := fun rest => inNum_put n 8 rest b h4
      have g5 := fun rest => inBytes_str hh rest b h5
      have g6 := fun rest => inNum_put d 8 rest b h6
      simp only [hasN, List.flatMap_cons, List.flatMap_nil, partE, s1, s2, s3, s5, s7, s9, EV.num, EV.txt, if_true, Bool.false_eq_true, if_false, List.append_assoc, List.nil_append, Int.reduceToNat, Int.reduceEq, List.foldl_cons, List.foldl_nil, stepIn, EV.setN, EV.setT, ev0, g2, g3, g4, g5, g6, bytesOf_strNums]
    · obtain ⟨⟨⟨⟨⟨⟨⟨h1, h1'⟩, h2⟩, h3⟩, h4⟩, h5⟩, h6, h6'⟩, h7⟩ := h
      obtain rfl := emptyB_eq s h7
      have g1 := fun rest => inNum_put f 1 rest b h1
      have g1' := fun rest => inNum_put i 2 rest b h1'
      have g2 := fun rest => inNum_put t 1 rest b h2
      have g3 := fun rest => inNum_put a 1 rest b h3
      have g4 := fun rest => inNum_put n 8 rest b h4
      have g5 := fun rest => inBytes_str hh rest b h5
      have g6 := fun rest => inNum_put d 8 rest b h6
      simp only [hasN, List.flatMap_cons, List.flatMap_nil, partE, s1, s2, s3, s4, s5, s6, s7, s9, EV.num, EV.txt, if_true, Bool.false_eq_true, if_false, List.append_assoc, List.nil_append, Int.reduceToNat, Int.reduceEq, List.foldl_cons, List.foldl_nil, stepIn, EV.setN, EV.setT, ev0, g1, g1', g2, g3, g4, g5, g6, bytesOf_strNums]
  · simp only [Int.reduceEq, if_true, if_false, Bool.and_eq_true, decide_eq_true_eq] at h
    obtain ⟨⟨⟨h1, h2⟩, rfl, rfl, rfl, rfl, rfl⟩, h4⟩ := h
    obtain rfl := emptyB_eq hh h4
    have g1 := fun rest => inNum_put i 2 rest b h1
    have g2 := fun rest => inBytes_str s rest b h2
    simp only [hasN, List.flatMap_cons, List.flatMap_nil, partE, s4, s8, s10, EV.num, EV.txt, if_true, Bool.false_eq_true, if_false, List.append_assoc, List.nil_append, Int.reduceToNat, Int.reduceEq, Nat.reduceEqDiff, List.foldl_cons, List.foldl_nil, stepIn, EV.setN, EV.setT, ev0, g1, g2, bytesOf_strNums]
  · simp only [Int.reduceEq, if_true, if_false, Bool.and_eq_true, decide_eq_true_eq] at h
    obtain ⟨⟨h1, rfl, rfl, rfl, rfl, rfl⟩, h3, h4⟩ := h
    obtain rfl := emptyB_eq hh h3
    obtain rfl := emptyB_eq s h4
    have g1 := fun rest => inNum_put i 2 rest b h1
    simp only [hasN, List.flatMap_cons, List.flatMap_nil, partE, s4, EV.num, if_true, Bool.false_eq_true, if_false, List.append_assoc, List.nil_append, Int.reduceToNat, Int.reduceEq, List.foldl_cons, List.foldl_nil, stepIn, EV.setN, ev0, g1]

def foldEv (ev : Bool) (es : List EV) (st : List Int × Bool) : List Int × Bool := es.foldl (fun st e => evOut e (hasN e.k ev) st) st
theorem evs_snd (ev : Bool) (es : List EV) (st : List Int × Bool) : (foldEv ev es st).2 = (st.2 || !es.all (okE ev)) := by
  induction es generalizing st with
  | nil => simp [foldEv]
  | cons e es ih =>
    show (foldEv ev es (evOut e (hasN e.k ev) st)).2 = _
    rw [ih, evOut_snd, List.all_cons]
    cases st.2 <;> cases okE ev e <;> simp
theorem evs_fst (ev : Bool) (es : List EV) (st : List Int × Bool) (h : es.all (okE ev) = true) : (foldEv ev es st).1 = st.1 ++ es.flatMap (chunkE ev) := by
  induction es generalizing st with
  | nil => simp [foldEv]
  | cons e es ih =>
    rw [List.all_cons, Bool.and_eq_true] at h
    show (foldEv ev es (evOut e (hasN e.k ev) st)).1 = _
    rw [ih _ h.2, evOut_fst ev st e h.1, List.flatMap_cons, List.append_assoc]
theorem evsIn_chunks (ev : Bool) (es : List EV) (rest : List Int) (h : es.all (okE ev) = true) : evsIn ev es.length (es.flatMap (chunkE ev) ++ rest, false) = (es, (rest, false)) := by
  induction es generalizing rest with
  | nil => rfl
  | cons e es ih =>
    rw [List.all_cons, Bool.and_eq_true] at h
    have h1 := evIn_chunk ev e (es.flatMap (chunkE ev) ++ rest) false h.1
    simp only [List.length_cons, evsIn, List.flatMap_cons, List.append_assoc, h1, ih rest h.2, Bool.false_eq_true, if_false]
theorem fits_nat (n : Nat) (s : Nat) (hs : 1 ≤ s ∧ s ≤ 8) (h : n < 256) : fitsB (n : Int) (s : Nat) = true := by
  have h1 : amtB (n : Int) = true := (amt_iff _).2 ⟨by omega, by unfold MA; omega⟩
  have h0 : mayB (s : Int) = true := by simp [mayB]; omega
  have h2 : (n : Int) / 2 ^ (8 * ((s : Nat) : Int).toNat) ≤ 0 := by
    have hp : (256 : Int) ≤ 2 ^ (8 * s) := by
      have := Nat.pow_le_pow_right (n := 2) (by decide) (show 8 ≤ 8 * s by omega)
      have e : ((2 ^ (8 * s) : Nat) : Int) = (2 : Int) ^ (8 * s) := by rw [Int.natCast_pow]; rfl
      omega
    rw [Int.toNat_natCast, Int.ediv_eq_zero_of_lt (by omega) (by omega)]
    exact Int.le_refl _
  unfold fitsB
  rw [h0, h1, decide_eq_true h2]
  simp
theorem fits_len2 (n : Nat) (h : n ≤ 65535) : fitsB (n : Int) 2 = true := fits_len n h
theorem fits_len1 (n : Nat) (h : n ≤ 255) : fitsB (n : Int) 1 = true := fits_nat n 1 (by omega) (by omega)

/-! Batches. -/
def EV.rq (e : EV) : RQ := ⟨e.k, e.t, e.a, e.n, e.i, e.d, e.h, e.s⟩
theorem rq_ev_rq (r : RQ) : r.ev.rq = r := rfl
def chunkR (r : RQ) : List Int := chunkE false r.ev
def encOK (seen : Int) (rs : List RQ) : Bool := decide (rs.length ≤ 64) && fitsB seen 2 && (rs.map RQ.ev).all (okE false)
def encB (seen : Int) (rs : List RQ) : List Int := putB seen 2 ++ (putB rs.length 1 ++ (rs.map RQ.ev).flatMap (chunkE false))
theorem encSt_fold (seen : Int) (rs : List RQ) : encSt seen rs = foldEv false (rs.map RQ.ev) (encHead seen rs.length) := by
  unfold encSt foldEv
  rw [List.foldl_map]
  rfl
theorem encF_eq (seen : Int) (rs : List RQ) : encF seen rs = if encOK seen rs = true then (encB seen rs, 0) else ([], 1) := by
  unfold encF encOK
  by_cases h : 64 < rs.length
  · rw [if_pos h, decide_eq_false (by omega)]; simp
  · rw [if_neg h, decide_eq_true (show rs.length ≤ 64 by omega), encSt_fold]
    have f1 := fits_len1 rs.length (by omega)
    unfold outEnd
    rw [evs_snd]
    have e2 : (encHead seen rs.length).2 = !fitsB seen 2 := by
      unfold encHead
      rw [numOut_snd, numOut_snd, f1]; simp
    rw [e2]
    cases hs : fitsB seen 2
    · simp
    · cases ha : (rs.map RQ.ev).all (okE false)
      · simp
      · rw [evs_fst false _ _ ha]
        have e1 : (encHead seen rs.length).1 = putB seen 2 ++ putB rs.length 1 := by
          unfold encHead
          rw [numOut_fst, numOut_fst, f1, hs]; simp
        rw [e1]
        unfold encB
        simp
def batchIn (l : List Int) : (Int × List RQ) × InS :=
  (((inNum 2 (l, false)).1, (evsIn false (inNum 1 (inNum 2 (l, false)).2).1.toNat (inNum 1 (inNum 2 (l, false)).2).2).1.map EV.rq), (evsIn false (inNum 1 (inNum 2 (l, false)).2).1.toNat (inNum 1 (inNum 2 (l, false)).2).2).2)
theorem batchIn_enc (seen : Int) (rs : List RQ) (rest : List Int) (h : encOK seen rs = true) : batchIn (encB seen rs ++ rest) = ((seen, rs), (rest, false)) := by
  unfold encOK at h
  rw [Bool.and_eq_true, Bool.and_eq_true, decide_eq_true_eq] at h
  obtain ⟨⟨h1, h2⟩, h3⟩ := h
  have g1 := fun rest => inNum_put seen 2 rest false h2
  have g2 := fun rest => inNum_put rs.length 1 rest false (fits_len1 rs.length (by omega))
  have g3 := evsIn_chunks false (rs.map RQ.ev) rest h3
  rw [List.length_map] at g3
  unfold batchIn encB
  simp only [List.append_assoc, g1, g2, Int.toNat_natCast, g3, List.map_map]
  congr 2
  have : (EV.rq ∘ RQ.ev) = id := by funext r; rfl
  rw [this, List.map_id]
def decF (b : List Int) : (Int × List RQ) × Int :=
  if (batchIn b).2.2 = false ∧ (encF (batchIn b).1.1 (batchIn b).1.2).2 = 0 ∧ (encF (batchIn b).1.1 (batchIn b).1.2).1 = b then ((batchIn b).1, 0) else ((0, []), 2)
theorem encF_ok {seen : Int} {rs : List RQ} (h : (encF seen rs).2 = 0) : encOK seen rs = true ∧ (encF seen rs).1 = encB seen rs := by
  rw [encF_eq] at h ⊢
  cases ho : encOK seen rs
  · rw [ho] at h; simp at h
  · simp
theorem encF_12 (seen : Int) (rs : List RQ) : (encF seen rs).2 = 0 ∨ encF seen rs = ([], 1) := by
  rw [encF_eq]; split
  · exact Or.inl rfl
  · exact Or.inr rfl
theorem decF_enc (seen : Int) (rs : List RQ) (h : (encF seen rs).2 = 0) : decF (encF seen rs).1 = ((seen, rs), 0) := by
  obtain ⟨h1, h2⟩ := encF_ok h
  have h3 := batchIn_enc seen rs [] h1
  rw [List.append_nil] at h3
  unfold decF
  rw [h2, h3]
  simp [h, h2]
theorem decF_ok {b : List Int} (h : (decF b).2 = 0) : encF (decF b).1.1 (decF b).1.2 = (b, 0) := by
  unfold decF at h ⊢
  split at h
  · rename_i hc
    rw [if_pos hc]
    exact Prod.ext hc.2.2 hc.2.1
  · simp at h
theorem decF_12 (b : List Int) : (decF b).2 = 0 ∨ decF b = ((0, []), 2) := by
  unfold decF; split
  · exact Or.inl rfl
  · exact Or.inr rfl
/-- The reader tells a batch just if it is laid by these bytes. -/
theorem decF_iff (b : List Int) (seen : Int) (rs : List RQ) : decF b = ((seen, rs), 0) ↔ encF seen rs = (b, 0) := by
  constructor
  · intro h
    have := decF_ok (b := b) (by rw [h])
    rwa [h] at this
  · intro h
    have := decF_enc seen rs (by rw [h])
    rwa [h] at this
theorem chunkE_in (ev : Bool) (e : EV) : InB (chunkE ev e) := by
  intro z hz
  unfold chunkE at hz
  rcases List.mem_append.1 hz with h | h
  · exact putB_in _ _ z h
  · obtain ⟨c, _, h2⟩ := List.mem_flatMap.1 h
    unfold partE at h2
    split at h2
    · exact putB_in _ _ z h2
    · exact strNums_in _ z h2
theorem encB_in (seen : Int) (rs : List RQ) : InB (encB seen rs) := by
  intro z hz
  unfold encB at hz
  simp only [List.mem_append, List.mem_flatMap] at hz
  rcases hz with h | h | ⟨e, _, h⟩
  · exact putB_in _ _ z h
  · exact putB_in _ _ z h
  · exact chunkE_in _ _ z h
theorem encF_in (seen : Int) (rs : List RQ) : InB (encF seen rs).1 := by
  rw [encF_eq]; split
  · exact encB_in _ _
  · intro z hz; cases hz

/-! Answers. -/
def okRep (r : Int × Int) : Bool := fitsB r.1 1 && fitsB r.2 2
def chunkRep (r : Int × Int) : List Int := putB r.1 1 ++ putB r.2 2
theorem rep_snd (rs : List (Int × Int)) (st : List Int × Bool) : (rs.foldl encRep st).2 = (st.2 || !rs.all okRep) := by
  induction rs generalizing st with
  | nil => simp
  | cons r rs ih =>
    rw [List.foldl_cons, ih, List.all_cons]
    unfold encRep okRep
    rw [numOut_snd, numOut_snd]
    cases st.2 <;> cases fitsB r.1 1 <;> cases fitsB r.2 2 <;> simp
theorem rep_fst (rs : List (Int × Int)) (st : List Int × Bool) (h : rs.all okRep = true) : (rs.foldl encRep st).1 = st.1 ++ rs.flatMap chunkRep := by
  induction rs generalizing st with
  | nil => simp
  | cons r rs ih =>
    rw [List.all_cons, Bool.and_eq_true] at h
    obtain ⟨h1, h2⟩ := h
    unfold okRep at h1
    rw [Bool.and_eq_true] at h1
    rw [List.foldl_cons, ih _ h2, List.flatMap_cons]
    unfold encRep chunkRep
    rw [numOut_fst, numOut_fst, if_pos h1.1, if_pos h1.2]
    simp
theorem repsIn_chunks (rs : List (Int × Int)) (rest : List Int) (h : rs.all okRep = true) : repsIn rs.length (rs.flatMap chunkRep ++ rest, false) = (rs, (rest, false)) := by
  induction rs generalizing rest with
  | nil => rfl
  | cons r rs ih =>
    rw [List.all_cons, Bool.and_eq_true] at h
    obtain ⟨h1, h2⟩ := h
    unfold okRep at h1
    rw [Bool.and_eq_true] at h1
    have g1 := fun rest => inNum_put r.1 1 rest false h1.1
    have g2 := fun rest => inNum_put r.2 2 rest false h1.2
    simp only [List.length_cons, repsIn, repIn, List.flatMap_cons, chunkRep, List.append_assoc, g1, g2, ih rest h2, Bool.false_eq_true, if_false]
def ansAll (clock seen : Int) (rs : List (Int × Int)) (es : List EV) : Bool := ansOK clock rs.length es.length && fitsB clock 8 && fitsB seen 2 && rs.all okRep && es.all (okE true)
def ansB (clock seen : Int) (rs : List (Int × Int)) (es : List EV) : List Int := putB clock 8 ++ (putB seen 2 ++ (putB rs.length 1 ++ (rs.flatMap chunkRep ++ (putB es.length 2 ++ es.flatMap (chunkE true)))))
theorem ansSt_fold (clock seen : Int) (rs : List (Int × Int)) (es : List EV) : ansSt clock seen rs es = foldEv true es (numOut (rs.foldl encRep (ansHead clock seen rs.length)) es.length 2) := rfl
theorem ansF_eq (clock seen : Int) (rs : List (Int × Int)) (es : List EV) : ansF clock seen rs es = if ansAll clock seen rs es = true then (ansB clock seen rs es, 0) else ([], 1) := by
  unfold ansF ansAll
  cases h : ansOK clock rs.length es.length
  · simp
  · have h' := h
    unfold ansOK at h'
    simp only [Bool.and_eq_true, decide_eq_true_eq] at h'
    obtain ⟨⟨_, hn⟩, hm⟩ := h'
    have f1 := fits_len1 rs.length (by omega)
    have f2 := fits_len2 es.length (by omega)
    rw [if_pos rfl, ansSt_fold]
    unfold outEnd
    rw [evs_snd, numOut_snd, f2, rep_snd]
    have e2 : (ansHead clock seen rs.length).2 = !(fitsB clock 8 && fitsB seen 2) := by
      unfold ansHead
      rw [numOut_snd, numOut_snd, numOut_snd, f1]; simp
    rw [e2]
    cases hc : fitsB clock 8
    · simp
    · cases hs : fitsB seen 2
      · simp
      · cases hr : rs.all okRep
        · simp
        · cases ha : es.all (okE true)
          · simp
          · rw [evs_fst true _ _ ha, numOut_fst, if_pos f2, rep_fst _ _ hr]
            have e1 : (ansHead clock seen rs.length).1 = putB clock 8 ++ putB seen 2 ++ putB rs.length 1 := by
              unfold ansHead
              rw [numOut_fst, numOut_fst, numOut_fst, f1, hs, hc]; simp
            rw [e1]
            unfold ansB
            simp
structure AN where
  c : Int
  q : Int
  rs : List (Int × Int)
  es : List EV
def ansIn (l : List Int) : AN × InS :=
  let c := inNum 8 (l, false)
  let q := inNum 2 c.2
  let n := inNum 1 q.2
  let rs := repsIn n.1.toNat n.2
  let m := inNum 2 rs.2
  let es := evsIn true m.1.toNat m.2
  (⟨c.1, q.1, rs.1, es.1⟩, es.2)
theorem ansIn_enc (clock seen : Int) (rs : List (Int × Int)) (es : List EV) (rest : List Int) (h : ansAll clock seen rs es = true) : ansIn (ansB clock seen rs es ++ rest) = (⟨clock, seen, rs, es⟩, (rest, false)) := by
  unfold ansAll ansOK at h
  simp only [Bool.and_eq_true, decide_eq_true_eq] at h
  obtain ⟨⟨⟨⟨⟨⟨_, hn⟩, hm⟩, h1⟩, h2⟩, h3⟩, h4⟩ := h
  have g1 := fun rest => inNum_put clock 8 rest false h1
  have g2 := fun rest => inNum_put seen 2 rest false h2
  have g3 := fun rest => inNum_put rs.length 1 rest false (fits_len1 rs.length (by omega))
  have g4 := fun rest => repsIn_chunks rs rest h3
  have g5 := fun rest => inNum_put es.length 2 rest false (fits_len2 es.length (by omega))
  have g6 := evsIn_chunks true es rest h4
  unfold ansIn ansB
  simp only [List.append_assoc, g1, g2, g3, Int.toNat_natCast, g4, g5, g6]
def an0 : AN := ⟨0, 0, [], []⟩
def AN.enc (a : AN) : List Int × Int := ansF a.c a.q a.rs a.es
def decA (b : List Int) : AN × Int := if (ansIn b).2.2 = false ∧ (ansIn b).1.enc.2 = 0 ∧ (ansIn b).1.enc.1 = b then ((ansIn b).1, 0) else (an0, 2)
theorem ansF_ok {a : AN} (h : a.enc.2 = 0) : ansAll a.c a.q a.rs a.es = true ∧ a.enc.1 = ansB a.c a.q a.rs a.es := by
  unfold AN.enc at h ⊢
  rw [ansF_eq] at h ⊢
  cases ho : ansAll a.c a.q a.rs a.es
  · rw [ho] at h; simp at h
  · simp
theorem ansF_12 (a : AN) : a.enc.2 = 0 ∨ a.enc = ([], 1) := by
  unfold AN.enc
  rw [ansF_eq]; split
  · exact Or.inl rfl
  · exact Or.inr rfl
theorem decA_enc (a : AN) (h : a.enc.2 = 0) : decA a.enc.1 = (a, 0) := by
  obtain ⟨h1, h2⟩ := ansF_ok h
  have h3 := ansIn_enc a.c a.q a.rs a.es [] h1
  rw [List.append_nil] at h3
  unfold decA
  rw [h2, h3]
  have e : (⟨a.c, a.q, a.rs, a.es⟩ : AN) = a := rfl
  rw [e, h, h2]
  simp
theorem decA_ok {b : List Int} (h : (decA b).2 = 0) : (decA b).1.enc = (b, 0) := by
  unfold decA at h ⊢
  split at h
  · rename_i hc
    rw [if_pos hc]
    exact Prod.ext hc.2.2 hc.2.1
  · simp at h
theorem decA_12 (b : List Int) : (decA b).2 = 0 ∨ decA b = (an0, 2) := by
  unfold decA; split
  · exact Or.inl rfl
  · exact Or.inr rfl
theorem decA_iff (b : List Int) (a : AN) : decA b = (a, 0) ↔ a.enc = (b, 0) := by
  constructor
  · intro h
    have := decA_ok (b := b) (by rw [h])
    rwa [h] at this
  · intro h
    have := decA_enc a (by rw [h])
    rwa [h] at this
theorem ansB_in (clock seen : Int) (rs : List (Int × Int)) (es : List EV) : InB (ansB clock seen rs es) := by
  intro z hz
  unfold ansB chunkRep at hz
  simp only [List.mem_append, List.mem_flatMap] at hz
  rcases hz with h | h | h | ⟨r, _, h | h⟩ | h | ⟨e, _, h⟩
  all_goals first | exact putB_in _ _ z h | exact chunkE_in _ _ z h
theorem ansF_in (clock seen : Int) (rs : List (Int × Int)) (es : List EV) : InB (ansF clock seen rs es).1 := by
  rw [ansF_eq]; split
  · exact ansB_in _ _ _ _
  · intro z hz; cases hz

/-! The same. -/
theorem eqS_iff (a b : ByteArray) : eqS a b = true ↔ a = b := by
  unfold eqS
  rw [beq_iff_eq, ByteArray.toList_eq, ByteArray.toList_eq]
  constructor
  · intro h
    cases a; cases b
    simpa using h
  · rintro rfl; rfl
theorem eqRQ_iff (r q : RQ) : eqRQ r q = true ↔ r = q := by
  obtain ⟨k, t, a, n, i, d, h, s⟩ := r
  obtain ⟨k', t', a', n', i', d', h', s'⟩ := q
  simp [eqRQ, eqS_iff]
theorem eqEV_iff (r q : EV) : eqEV r q = true ↔ r = q := by
  obtain ⟨k, f, t, a, n, i, d, h, s⟩ := r
  obtain ⟨k', f', t', a', n', i', d', h', s'⟩ := q
  simp [eqEV, eqS_iff]
theorem eqRP_iff (r q : Int × Int) : eqRP r q = true ↔ r = q := by
  obtain ⟨a, b⟩ := r
  obtain ⟨c, d⟩ := q
  simp [eqRP]
theorem allB_iff {α : Type} (f : α → α → Bool) (hf : ∀ x y, f x y = true ↔ x = y) : ∀ xs ys : List α, allB f xs ys = true ↔ xs = ys
  | [], [] => by simp [allB, allF]
  | [], y :: ys => by simp [allB]
  | x :: xs, [] => by simp [allB]
  | x :: xs, y :: ys => by
    have ih := allB_iff f hf xs ys
    unfold allB at ih ⊢
    rw [Bool.and_eq_true, decide_eq_true_eq] at ih ⊢
    simp only [allF, Bool.and_eq_true, hf, List.length_cons, Nat.add_right_cancel_iff, List.cons.injEq]
    rw [← ih]
    exact ⟨fun h => ⟨h.2.1, h.1, h.2.2⟩, fun h => ⟨h.2.1, h.1, h.2.2⟩⟩
theorem sameB_iff (s1 : Int) (xs : List RQ) (s2 : Int) (ys : List RQ) : sameB s1 xs s2 ys = true ↔ s1 = s2 ∧ xs = ys := by
  unfold sameB
  rw [Bool.and_eq_true, beq_iff_eq, allB_iff eqRQ eqRQ_iff]
theorem sameA_iff (c1 s1 : Int) (xs : List (Int × Int)) (es : List EV) (c2 s2 : Int) (ys : List (Int × Int)) (fs : List EV) : sameA c1 s1 xs es c2 s2 ys fs = true ↔ c1 = c2 ∧ s1 = s2 ∧ xs = ys ∧ es = fs := by
  unfold sameA
  rw [Bool.and_eq_true, Bool.and_eq_true, Bool.and_eq_true, beq_iff_eq, beq_iff_eq, allB_iff eqRP eqRP_iff, allB_iff eqEV eqEV_iff]
/-- ReqSame, plainly. -/
theorem same_batch (s1 : Int) (xs : List RQ) (s2 : Int) (ys : List RQ) (h1 : (encF s1 xs).2 = 0) (h2 : (encF s2 ys).2 = 0) : eqB (encF s1 xs).1 (encF s2 ys).1 = sameB s1 xs s2 ys := by
  rw [Bool.eq_iff_iff, sameB_iff]
  unfold eqB
  rw [decide_eq_true_eq]
  constructor
  · intro h
    have a := decF_enc s1 xs h1
    rw [h, decF_enc s2 ys h2] at a
    simp only [Prod.mk.injEq, and_true] at a
    exact ⟨a.1.symm, a.2.symm⟩
  · rintro ⟨rfl, rfl⟩; rfl
theorem same_answer (a b : AN) (h1 : a.enc.2 = 0) (h2 : b.enc.2 = 0) : eqB a.enc.1 b.enc.1 = sameA a.c a.q a.rs a.es b.c b.q b.rs b.es := by
  rw [Bool.eq_iff_iff, sameA_iff]
  unfold eqB
  rw [decide_eq_true_eq]
  constructor
  · intro h
    have x := decA_enc a h1
    rw [h, decA_enc b h2] at x
    simp only [Prod.mk.injEq, and_true] at x
    rw [x]; exact ⟨rfl, rfl, rfl, rfl⟩
  · rintro ⟨e1, e2, e3, e4⟩
    unfold AN.enc
    rw [e1, e2, e3, e4]

end Go.Proofs.YtkaciaehlibidaaGreat
