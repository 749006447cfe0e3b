/- WireCuts is true for every input, and its arguments read behind the call as before; no condition. -/
import Derived.Test.YtnohdbhkepdjbaaReads
import Derived.Test.YtnohdbhkepdjbaaLaw4
namespace Go.Proofs.Ytnohdbhkepdjbaa
open Go.ChangeShapes Go.WideShapes Go.ChangeAt Go.RowKit
set_option linter.unusedVariables false


def E1 (W w : World) (pe : Nat) (bs : List Int) (e : Int) : Prop :=
  ∃ v, EncAt 66 w pe v bs e ∧ Below W.heap.size W w ∧ W.heap.size ≤ pe ∧ (∀ k, v.ownBlock = some k → W.heap.size ≤ k)
theorem E1.base {W w : World} {pe : Nat} {bs : List Int} {e : Int} (h : E1 W w pe bs e) : Below W.heap.size W w := by obtain ⟨v, h1, h2, _⟩ := h; exact h2
theorem E1.below {W w w' : World} {pe : Nat} {bs : List Int} {e : Int} (h : E1 W w pe bs e) (hb : Below w.heap.size w w') : E1 W w' pe bs e := by
  obtain ⟨v, h1, h3, h4, h5⟩ := h
  exact ⟨v, h1.keep (Keeps.of_below (S := fun _ => False) hb) (fun _ _ f => f), h3.trans (hb.mono h3.size), h4, h5⟩
theorem E1.post {W w w' : World} {pe : Nat} {v : Value} {bs' : List Int} {e' : Int} (h3 : Below W.heap.size W w) (h4 : W.heap.size ≤ pe) (h5 : ∀ k, v.ownBlock = some k → W.heap.size ≤ k) (hp : EncPost 66 w pe v bs' e' w') : E1 W w' pe bs' e' := by
  obtain ⟨v', a1, a2, a3⟩ := hp
  refine ⟨v', a1, h3.trans (a2.below h3.size (fun k hk => by rcases hk with rfl | hk; exact h4; exact h5 k hk)), h4, fun k hk => ?_⟩
  rcases a3 k hk with h | h
  · exact h5 k h
  · have := h3.size; omega
theorem E1.num {W w : World} {pe : Nat} {bs : List Int} {e : Int} (h : E1 W w pe bs e) (n size : Int) (r : List Int × Int) (hr : encNum bs e n size = r) (hl : bs.length + 8 ≤ 140737488355328) :
    Calls Try.prog 21 #[.pointer (some ⟨pe, 0, none⟩), .int .i64 n, .int .i64 size] w fun en w' => en = .returned (.tuple #[]) ∧ E1 W w' pe r.1 r.2 := by
  obtain ⟨v, h1, h3, h4, h5⟩ := h
  subst hr
  exact (enc_num pe v bs e n size w h1 hl).mono fun _ _ ⟨a, b⟩ => ⟨a, E1.post h3 h4 h5 b⟩
theorem E1.bytes {W w : World} {pe : Nat} {bs : List Int} {e : Int} (h : E1 W w pe bs e) (ao : Option Addr) (xs : List Int) (n cap : Nat) (hn : xs.length = n) (hx : IntsAt .u8 w ao xs) (hf : xs = [] ∨ ∀ a, ao = some a → a.block < W.heap.size)
    (r : List Int × Int) (hr : encBytes bs e xs = r) (hl : bs.length + 8 + n ≤ 140737488355328) :
    Calls Try.prog 35 #[.pointer (some ⟨pe, 0, none⟩), .slice ao n cap] w fun en w' => en = .returned (.tuple #[]) ∧ E1 W w' pe r.1 r.2 := by
  obtain ⟨v, h1, h3, h4, h5⟩ := h
  subst hr
  refine (enc_bytes pe v bs e w h1 ao xs n cap hn hx ?_ hl).mono fun _ _ ⟨a, b⟩ => ⟨a, E1.post h3 h4 h5 b⟩
  rcases hf with h | h
  · exact Or.inl h
  · refine Or.inr (fun a ha hk => ?_)
    have := h a ha
    rcases hk with hk | hk
    · omega
    · have := h5 _ hk; omega
theorem E1.done {W w : World} {pe : Nat} {bs : List Int} {e : Int} (h : E1 W w pe bs e) (hl : bs.length ≤ 140737488355328) (R : List Int) (hR : doneB bs e = R) :
    Calls Try.prog 22 #[.pointer (some ⟨pe, 0, none⟩)] w (RowPost2 w R e) := by
  obtain ⟨v, h1, h3, h4, h5⟩ := h
  subst hR
  exact enc_done pe v bs e w h1 hl
theorem E1.new {W w w' : World} (hb : Below W.heap.size W w) (hw : w' = w.alloc (.cells #[.slice none 0 0, .int .i64 0] 66)) : E1 W w' w.heap.size [] 0 := by
  subst hw
  exact ⟨_, enc_new w _, hb.alloc hb.size _, hb.size, fun k hk => by cases hk⟩

theorem packF_length (j : Nat) (ts : List (List Int)) : (packF j ts).length = (ts.map List.length).sum + 5 * ts.length := by
  induction ts generalizing j with
  | nil => rfl
  | cons t ts ih => simp [packF, putB_length, ih]; omega
theorem packF_in (j : Nat) (ts : List (List Int)) (h : ∀ t ∈ ts, InB t) : InB (packF j ts) := by
  induction ts generalizing j with
  | nil => intro z hz; cases hz
  | cons t ts ih =>
    intro z hz
    simp only [packF, List.mem_append] at hz
    rcases hz with (hz | hz) | hz | hz
    · exact putB_in _ _ z hz
    · exact h t (by simp) z hz
    · exact putB_in _ _ z hz
    · exact ih (j + 1) (fun t ht => h t (by simp [ht])) z hz
theorem enc_step_pack (ts : List (List Int)) (t : List Int) (ht : t.length ≤ 65535) (hk : ts.length ≤ 1000) :
    encBytes (packF 0 ts) 0 t = (packF 0 ts ++ putB t.length 2 ++ t, 0) ∧ encNum (packF 0 ts ++ putB t.length 2 ++ t) 0 ts.length 3 = (packF 0 (ts ++ [t]), 0) := by
  refine ⟨by simp [encBytes]; omega, ?_⟩
  have h3 := fits3 ts.length hk
  rw [show ((3 : Nat) : Int) = 3 from rfl] at h3
  rw [packF_snoc]
  simp [encNum, h3]
theorem wpList_append_g {P : Program} {w : World} {ops : Array Oper} {rest : List Oper} {o : Oper} {a : Act} {Q : Exit → Act → World → Prop} (hw : Region.wanted o (yielded ops a.tmps) = true) (s x : Operand) (t : TypeId)
    (ho : o.op = .call { callee := .builtin .append, args := #[s, x], argTypes := #[t, t] })
    (e : TypeId) (i : TypeInfo) (z : Value) (size bytes : Nat) (ht : P.underlying t = some (.slice e)) (hi : P.info? e = some i) (hz : i.zero = some z)
    (hsize : i.size = size) (hby : i.bytes = bytes) (hzs : z.cells.size = size) (hsz : 0 < size)
    (v : Value) (n : Nat) (xs : List Value) (hs : a.eval s = v) (hown : w.ownsRow 0 e size v n xs)
    (sa : Option Addr) (m c : Nat) (news : List Value) (hx : a.eval x = .slice sa m c) (hl : news.length = m * size) (h0 : sa = none → m = 0) (hnews : ∀ ad, sa = some ad → ∀ j u, news[j]? = some u → w.cell? (ad.add j) = some u) (h1 : ∀ u ∈ news, u.oneCell' = true)
    (h63 : n + m ≤ maxLen) (hbytes : (n + m) * bytes ≤ 140737488355328)
    (h : ∀ ao cap w', w'.ownsRow 0 e size (.slice ao (n + m) cap) (n + m) (xs ++ news) → w.grownBy w' v.ownBlock → (∀ g, (Value.slice ao (n + m) cap).ownBlock = some g → v.ownBlock = some g ∨ g = w.heap.size) → (ao = none → n + m = 0) → wpList P ops Q rest (a.put o.dst (.slice ao (n + m) cap)) w') : wpList P ops Q (o :: rest) a w := by
  refine wpList_step fun K hK => ?_
  rw [if_pos hw]
  refine wp_append_any s x t ho e i z size bytes ht hi hz hsize hby hzs hsz v n xs hs hown sa m c news hx hl h0 hnews h1 h63 hbytes (fun ao cap w' a b c d => hK _ _ (h ao cap w' a b c d))

theorem le_sum_mem (l : List Nat) (x : Nat) (h : x ∈ l) : x ≤ l.sum := by
  induction l with
  | nil => cases h
  | cons y l ih =>
    rw [List.sum_cons]
    rcases List.mem_cons.1 h with rfl | h
    · omega
    · have := ih h; omega

set_option maxRecDepth 100000 in
set_option maxHeartbeats 4000000 in
theorem cuts_core (W : World) (to_ : Option Addr) (bs : List BSl) (n cap : Nat) (hn : bs.length = n) (HT0 : BytesList W to_ bs) (hcap : n ≤ cap) (hcm : cap ≤ maxLen) (cut : Int) :
    Calls Try.prog 11 #[.slice to_ n cap, .int .i64 cut] W fun e w' => e = .returned (.bool true) ∧ Below W.heap.size W w' := by
  have hb0 := Lib.hid (Below.refl W.heap.size W)
  have HT := Lib.hid HT0
  have HN := Lib.hid hn
  clear HT0 hn
  go_enter Try.func11, Try.ntmps11
  go_wp2_with fail
  refine (first4 W _ hb0.out).mono ?_
  rintro e w1 ⟨rfl, hb1⟩
  have HB1 := Lib.hid hb1
  clear hb1
  go_wp2_with fail
  refine (newEnc _).mono ?_
  rintro e w2 ⟨rfl, hw2⟩
  have H2 := Lib.hid (E1.new HB1.out hw2)
  clear hw2
  go_wp2_with fail
  have HFW := Lib.hid (few_any to_ bs n cap 20 2000 w2 HN.out (HT.out.below (H2.out.base)) hcap hcm (by decide) (by decide))
  by_cases hf : fewB (bs.map (fun b => b.zs.length)) 20 2000 = true
  · obtain ⟨f1, f2⟩ := few_facts _ _ _ hf
    have f1' : n ≤ 20 := by rw [← HN.out]; simpa using f1
    obtain ⟨ts, hts⟩ : ∃ ts, ts = bs.map (fun x => x.zs) := ⟨_, rfl⟩
    have f3 : (ts.map List.length).sum ≤ 2000 := by
      rw [hts, List.map_map]; exact f2
    have f4 : ts.length = n := by rw [hts]; simpa using HN.out
    have hlen : ∀ t ∈ ts, t.length ≤ 2000 := fun t ht => Nat.le_trans (le_sum_mem _ _ (List.mem_map.2 ⟨t, ht, rfl⟩)) f3
    have hin : ∀ t ∈ ts, InB t := by
      intro t ht
      rw [hts] at ht
      obtain ⟨b, hb, rfl⟩ := List.mem_map.1 ht
      exact (HT.out.2 b hb).2.1
    have hplen : ∀ k, (packF 0 (ts.take k)).length ≤ 2200 := by
      intro k
      rw [packF_length]
      have h1 : ((ts.take k).map List.length).sum ≤ (ts.map List.length).sum := by
        have := List.take_append_drop k (ts.map List.length)
        have h := congrArg List.sum this
        rw [List.sum_append, ← List.map_take] at h
        omega
      have h3 : (ts.take k).length ≤ 20 := by simp; omega
      omega
    have HTS := Lib.hid hts
    have HTL := Lib.hid f4
    have HLEN := Lib.hid hlen
    have HIN := Lib.hid hin
    have HPL := Lib.hid hplen
    clear f1 f2 f3 f4 hts hlen hin hplen
    go_wp2_with fail
    refine HFW.out.mono ?_
    rintro e w3 ⟨rfl, rfl⟩
    go_wp2_with fail
    go_loopw [6] (fun i wr => ∃ k : Nat, k ≤ n ∧ i = .int .i64 k ∧ E1 W wr w1.heap.size (packF 0 (ts.take k)) 0) (fun i _ => n - (intOf i).toNat)
    case atStart => exact ⟨0, Nat.zero_le _, rfl, H2.out⟩
    case round =>
      obtain ⟨k, hk, rfl, hE⟩ := hrel
      have HE := Lib.hid hE
      by_cases hlt : k < n
      · have hkb : k < bs.length := by rw [HN.out]; exact hlt
        have hkt : k < ts.length := by rw [HTL.out]; exact hlt
        have hx := HT.out.below hE.base
        obtain ⟨b, off, ha, hc⟩ := bl_cell hx k hkb
        have hi := (hx.2 _ (List.getElem_mem hkb)).1
        have hf := (HT.out.2 _ (List.getElem_mem hkb)).2.2.2.2
        have ht1 : bs[k].zs = ts[k] := by simp [HTS.out]
        rw [ht1] at hc hi hf
        have HS := Lib.hid (enc_step_pack (ts.take k) ts[k] (by have := HLEN.out _ (List.getElem_mem hkt); omega) (by simp; omega))
        rw [← List.take_succ_eq_append_getElem hkt, List.length_take, Nat.min_eq_left (by omega)] at HS
        have hp1 := HPL.out k
        have hp2 : (packF 0 (ts.take k) ++ putB ts[k].length 2 ++ ts[k]).length + 8 ≤ 140737488355328 := by
          have := HLEN.out _ (List.getElem_mem hkt)
          simp [putB_length]; omega
        have hp3 := HLEN.out _ (List.getElem_mem hkt)
        generalize ts[k] = t at *
        generalize packF 0 (ts.take k) = pk at *
        generalize pk ++ putB t.length 2 ++ t = pk2 at *
        have HI := Lib.hid hi
        have HF := Lib.hid hf
        generalize bs[k].ao = xo at *
        generalize bs[k].cap = xc at *
        subst ha
        clear hx hi hf hE ht1
        go_wp2_with fail
        refine (HE.out.bytes xo t _ xc rfl HI.out HF.out _ HS.out.1 (by omega)).mono ?_
        rintro e w4 ⟨rfl, h4⟩
        have H4 := Lib.hid h4
        clear h4 hc
        go_wp2_with fail
        refine (H4.out.num k 3 _ HS.out.2 hp2).mono ?_
        rintro e w5 ⟨rfl, h5⟩
        go_wp2
        go_roundw
        case rel => exact ⟨k + 1, by omega, by go_num, h5⟩
        case measure => simp [intOf]; omega
      · obtain rfl : k = n := by omega
        have htk : ts.take k = ts := List.take_of_length_le (by rw [HTL.out]; exact Nat.le_refl _)
        have hpl := HPL.out k
        rw [htk] at hE hpl
        have HE2 := Lib.hid hE
        have HTX := Lib.hid (HT.out.below hE.base)
        have HPI := Lib.hid (packF_in 0 ts HIN.out)
        clear hE HE htk hlt
        go_wp2_with fail
        refine (HE2.out.done (by omega) (packF 0 ts) (by simp [doneB])).mono ?_
        rintro e w4 ⟨ao, pcap, rfl, hr⟩
        have HR := Lib.hid hr
        have HB4 := Lib.hid (HE2.out.base.trans (hr.2.1.mono HE2.out.base.size))
        have HI4 := Lib.hid (owns_at hr.1)
        clear hr
        go_wp2_with fail
        have HRA := Lib.hid (reads_any ao (packF 0 ts) _ pcap to_ bs k cap w4 rfl HI4.out.2.1 HPI.out (by omega) HN.out (HT.out.below HB4.out) (by omega))
        rw [← HTS.out, show readsF 0 ts (packF 0 ts) 0 = true by have := reads_all ts 0 [] (by rw [HTL.out]; omega) (fun t ht => by have := HLEN.out t ht; omega); rw [List.append_nil] at this; rw [this]; rfl] at HRA
        refine HRA.out.mono ?_
        rintro e w5 ⟨rfl, hb5⟩
        have HB5 := Lib.hid (HB4.out.trans (hb5.mono HB4.out.size))
        have HI5 := Lib.hid (ints_below HI4.out.2.1 hb5)
        clear HRA hb5
        obtain ⟨i0, hi, hz0, hz1, hz2⟩ := info_parts Try_infoU8
        have HA1 : Hid (readsF 0 ts (packF 0 ts ++ [0]) 0 = false) := Lib.hid (by rw [reads_all ts 0 [0] (by rw [HTL.out]; omega) (fun t ht => by have := HLEN.out t ht; omega)]; decide)
        have HA2 : Hid (∀ c, c < (packF 0 ts).length → readsF 0 ts ((packF 0 ts).take c) 0 = false) := Lib.hid (fun c hc => reads_cut ts 0 c (by rw [HTL.out]; omega) (fun t ht => by have := HLEN.out t ht; omega) hc)
        have HPI1 : Hid (InB (packF 0 ts ++ [0])) := Lib.hid (by intro z hz; rcases List.mem_append.1 hz with h | h; exact HPI.out z h; simp at h; omega)
        have HI4b := Lib.hid HI4.out.2.2.1
        generalize packF 0 ts = pk at *
        obtain ⟨L, hL⟩ : ∃ L, L = pk.length := ⟨_, rfl⟩
        rw [← hL] at hpl HI4b
        rw [← hL]
        have HLL := Lib.hid hL
        clear hL HR HI4 HE2 HTX HPL HFW
        go_wp2_with fail
        refine (copyBytes ao pk L pcap w5 HLL.out.symm HI5.out (by omega)).mono ?_
        rintro e w6 ⟨ao2, cap2, rfl, hr6⟩
        rw [← HLL.out] at hr6
        rw [← HLL.out]
        have HR6 := Lib.hid hr6
        have HO6 := Lib.hid hr6.1
        clear hr6
        go_wp2_with (at_builtin; refine wpList_append_g (by rfl) _ _ 34 rfl 5 i0 (.int .u8 0) 1 1 Try.underlying34 hi hz0 hz1 hz2 rfl (by decide) (.slice ao2 L cap2) L (pk.map (Value.int .u8)) rfl ?c0 (some ⟨w6.heap.size, 0, none⟩) 1 1 [.int .u8 0] rfl rfl (by intro e; cases e) ?c3 (by simp [Value.oneCell']) ?c5 ?c6 ?_)
        case c0 => have := HO6.out; rw [← HLL.out] at this; exact this.alloc _
        case c3 => intro ad had; cases had; exact World.news_of_block (cs := #[.int .u8 0]) (heap_alloc_new _ _)
        case c5 => unfold maxLen; omega
        case c6 => omega
        intro ao3 cap3 w7 hown hgrow hat hnn
        have hb6 : Below W.heap.size W w6 := HB5.out.trans (HR6.out.2.1.mono HB5.out.size)
        have hb7 : Below W.heap.size W w7 := (hb6.alloc hb6.size _).grown hgrow (by have := hb6.size; simp; omega) (fun k' hk' => by have := HR6.out.2.2 k' hk'; have := HB5.out.size; omega)
        have h67 : Below w5.heap.size w5 w7 := ((HR6.out.2.1.alloc HR6.out.2.1.size _).grown hgrow (by have := HR6.out.2.1.size; simp; omega) (fun k' hk' => HR6.out.2.2 k' hk'))
        have HRB := Lib.hid (reads_any ao3 (pk ++ [0]) (L + 1) cap3 to_ bs k cap w7 (by simp [HLL.out]) (owns_at (zs := pk ++ [0]) (by simpa using hown)).2.1 HPI1.out (by omega) HN.out (HT.out.below hb7) (by omega))
        rw [← HTS.out, HA1.out] at HRB
        have HB7 := Lib.hid hb7
        have HI7 := Lib.hid (ints_below HI5.out h67)
        clear hown hgrow hat hnn hb6 hb7 h67 HR6 HO6
        go_wp2_with fail
        refine HRB.out.mono ?_
        rintro e w8 ⟨rfl, hb8⟩
        have HB8 := Lib.hid (HB7.out.trans (hb8.mono HB7.out.size))
        have HI8 := Lib.hid (ints_below HI7.out hb8)
        clear HRB hb8
        by_cases c1 : cut < 0
        · go_wp2_with (go_at_call 19; refine (first4 W _ (HB8.out)).mono ?_; rintro e w9 ⟨rfl, hb⟩)
          go_ret
          exact ⟨rfl, hb⟩
        · obtain ⟨c, rfl⟩ := Int.eq_ofNat_of_zero_le (Int.not_lt.1 c1)
          by_cases c2 : (L : Int) ≤ (c : Int)
          · go_wp2_with (go_at_call 19; refine (first4 W _ (HB8.out)).mono ?_; rintro e w9 ⟨rfl, hb⟩)
            go_ret
            exact ⟨rfl, hb⟩
          · have c3 : (c : Int) ≤ (pcap : Int) := by have := HI4b.out; omega
            have HCL : Hid ((pk.take c).length = c) := Lib.hid (by simp [← HLL.out]; omega)
            have HAC := Lib.hid (HA2.out c (by rw [← HLL.out]; omega))
            clear HA2
            have HCB : Hid (∀ w, Below W.heap.size W w → IntsAt .u8 w ao pk → Calls Try.prog 49 #[.slice ao c pcap, .slice to_ k cap] w fun e w' => e = .returned (.bool false) ∧ Below w.heap.size w w') := Lib.hid (fun w hb hi => by
              have := reads_any ao (pk.take c) c pcap to_ bs k cap w HCL.out (hi.take c) (fun z hz => HPI.out z (List.mem_of_mem_take hz)) (by omega) HN.out (HT.out.below hb) (by omega)
              rw [← HTS.out, HAC.out] at this
              exact this)
            go_wp2_with fail
            refine (first4_any _).mono ?_
            rintro e w9 ⟨rfl, hb9⟩
            have HB9 := Lib.hid (HB8.out.trans (hb9.mono HB8.out.size))
            have HI9 := Lib.hid (ints_below HI8.out hb9)
            clear hb9
            go_wp2_with fail
            refine (HCB.out _ HB9.out HI9.out).mono ?_
            rintro e w10 ⟨rfl, hb10⟩
            go_wp2
            go_ret
            exact ⟨rfl, HB9.out.trans (hb10.mono HB9.out.size)⟩
  · go_wp2_with fail
    refine HFW.out.mono ?_
    rintro e w3 ⟨rfl, rfl⟩
    have hf' : fewB (bs.map (fun b => b.zs.length)) 20 2000 = false := by simpa using hf
    clear hf
    go_wp2_with (go_at_call 19; refine (first4 W _ (H2.out.base)).mono ?_; rintro e w8 ⟨rfl, hb⟩)
    go_ret
    exact ⟨rfl, hb⟩

theorem walk_wireCuts (W : World) (ao : Option Addr) (bs : List BSl) (n cap : Nat) (hn : bs.length = n) (h : BytesList W ao bs) (hcap : n ≤ cap) (hcm : cap ≤ maxLen) (cut : Int) (w1 : (Lit.int .i64 cut).wf = true) :
    Calls Try.prog 11 #[.slice ao n cap, .int .i64 cut] W fun e w' => e = .returned (.bool true) ∧ Below W.heap.size W w' := cuts_core W ao bs n cap hn h hcap hcm cut

/-! ### The row's step for WireCuts: the frame. -/
theorem wireCuts_own : ownKnob Try.prog.godebug = none := by kernel_rfl
theorem wireCuts_laidOut : laidOutB Try.prog = true := by kernel_rfl
set_option maxRecDepth 100000 in
theorem wireCuts_lifted (os : Os) (started : os.Started) (H : Type) (enc : TypeId × Value → H) :
    ReturnsInHanded {} Try.checked os 11 .any (Rows.wireCutsSpec.pre6 enc Try.prog Try.f11 Rows.wireCutsRow.domain false) (Rows.wireCutsSpec.post enc Try.prog Try.f11 false true false false) := by
  refine returnsInHanded_of_change (C := Try.checked) wireCuts_own started (by kernel_rfl) Try.func11
    (ChangeSpec.witness6 (enc := enc) (C := Try.checked) false ⟨#[], #[.slice none 0 0, .int .i64 0], []⟩ 8 (by kernel_rfl) (by kernel_rfl) (by kernel_rfl) (by kernel_rfl)) ?_
  intro W base args ds gs before hval0 hW hcnd _
  have hval : ∀ (j : Nat) t v, Try.f11.params[j]? = some t → args[j]? = some v → Value.okWide Try.prog W .any base t v := hval0
  have hW' := hW
  obtain ⟨p, q, hA0, hV, rfl, hfz, hnd⟩ := hW
  have hA : DataW.TrodAll enc Try.prog W 0 (fun _ => true) true Try.f11.params.toList args.toList ds p := hA0
  rw [Try.params11] at hA hval
  obtain ⟨v0, vs0, d0, ds0, p0, q0, hargs, rfl, rfl, h0, r0⟩ := trodAll_cons hA
  obtain ⟨v1, vs1, d1, ds1, p1, q1, rfl, rfl, rfl, h1, r1⟩ := trodAll_cons r0
  obtain ⟨rfl, rfl, rfl⟩ := trodAll_nil r1
  obtain rfl : args = #[v0, v1] := by cases args; simp_all
  obtain ⟨rfl, rfl⟩ := trodVars_none hV
  have k0 := h0
  have lt0 : ∀ x ∈ p0, x.block < W.heap.size := by obtain ⟨m, hm⟩ := k0; exact DataW.trod_lt m _ _ _ hm
  obtain ⟨ao0, len0, cap0, rfl⟩ := okWide_slice Try.underlying58 (hval 0 58 v0 rfl rfl)
  obtain ⟨z0, hl0, w0, hc0, wf0⟩ := lists_of Try.underlying58 (by kernel_rfl) Try.underlying34 Try.underlying5 (by kernel_rfl) h0
  have k1 := h1
  have lt1 : ∀ x ∈ p1, x.block < W.heap.size := by obtain ⟨m, hm⟩ := k1; exact DataW.trod_lt m _ _ _ hm
  obtain ⟨a1, rfl, rfl, rfl, w1⟩ := open_int Try.underlying3 (hval 1 3 v1 rfl rfl) h1
  clear hA0 hval0
  refine (walk_wireCuts W ao0 z0 len0 cap0 hl0.symm w0 hc0 wf0 a1 w1).mono fun e W' ⟨he, bel⟩ => ?_
  subst he
  exact ⟨_, rfl, _, _, _, [], _, [], hW', trodAll_mk1 (shut_bool Try.underlying4 _), (trodAll_cons_mk (Below.trod wireCuts_laidOut (by kernel_rfl) (of_decide_eq_true (by kernel_rfl)) k0 bel lt0) (trodAll_cons_mk (Below.trod wireCuts_laidOut (by kernel_rfl) (of_decide_eq_true (by kernel_rfl)) k1 bel lt1) trodAll_mk0)), rfl, bel.frame _, fun h => by cases h⟩

theorem wireCuts_over : Rows.wireCutsRow.holds Try.pinned (OpenSpec.ofChange Rows.wireCutsSpec) :=
  OpenClaim.holds_of_wide 11 Try.f11 rfl rfl rfl rfl rfl rfl rfl ⟨rfl, rfl, rfl, rfl, rfl⟩ rfl rfl rfl rfl rfl (by kernel_rfl) Try.func11 (by kernel_rfl)
    (of_decide_eq_true (by kernel_rfl)) (by unfold Func.isWrapper; first | (rw [if_pos (by decide +kernel)]; kernel_rfl) | (rw [if_neg (by decide +kernel)]; exact ⟨rfl, rfl⟩))
    (fun os started H enc _ => wireCuts_lifted os started H enc)

/-- The statement. -/
theorem wireCuts_holds : Rows.WireCutsSaid := wireCuts_over
#print axioms wireCuts_holds
end Go.Proofs.Ytnohdbhkepdjbaa
