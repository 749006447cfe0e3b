/- Contracts of sha.One, cflref1.Word, cflref1.Start. -/
import Derived.Test.YtbhoakohpfdeoaaGreatShaR3
namespace Go.Proofs.YtbhoakohpfdeoaaGreat
open Go.RowKit
set_option linter.unusedVariables false
set_option linter.unusedSimpArgs false

theorem IntsAt.far {k : IntKind} {w : World} {ao : Option Addr} {zs : List Int} (h : IntsAt k w ao zs) {p : Nat} (hp : w.heap.size ≤ p) : zs = [] ∨ ∀ a, ao = some a → a.block ≠ p := by
  by_cases h0 : zs = []
  · exact Or.inl h0
  · refine Or.inr (fun a ha e => ?_)
    subst ha
    have := h.lt h0
    omega
theorem TabPost.ok {b : Nat} {w w' : World} (h : TabPost b w w') : TabOk w' b := Or.inr h.1

set_option maxHeartbeats 1000000 in
theorem one_any (tb : Nat) (ao : Option Addr) (bs : List Int) (n cap : Nat) (w : World) (ht : TabOk w tb) (hn : bs.length = n) (hz : IntsAt .u8 w ao bs) (hB : InB bs) (hd : bs = [] ∨ ∀ a, ao = some a → a.block ≠ tb) (hlen : n ≤ 1099511627776) :
    Calls Tryz.prog 43 #[.pointer (some ⟨tb, 0, none⟩), .slice ao n cap] w fun e w' => SumPost w tb (shaF bs) e w' := by
  have HT := Lib.hid ht
  have HN := Lib.hid hn
  have HZ := Lib.hid hz
  have HB := Lib.hid hB
  have HL := Lib.hid hlen
  have HD := Lib.hid hd
  have HNW := Lib.hid (new_any tb w ht)
  clear ht hn hz hB hlen hd
  go_enter Tryz.func43, Tryz.ntmps43
  go_wp2_with fail
  refine HNW.out.mono ?_
  rintro e w1 ⟨rfl, ht1, hh1, hk1⟩
  have HK1 := Lib.hid hk1
  have hz1 : IntsAt .u8 w1 ao bs := by
    rcases HD.out with h | h
    · exact Or.inl h
    · exact HZ.out.same (fun a ha hl => hk1.block a.block hl (h a ha))
  have HWR := Lib.hid (write_any w.heap.size tb _ [] w1 ht1 hh1 ao bs n cap HN.out hz1 HB.out (HZ.out.far (Nat.le_refl _)) (by have := HL.out; simp; omega))
  clear ht1 hh1 hk1 hz1
  go_wp2_with fail
  refine HWR.out.mono ?_
  rintro e w2 ⟨rfl, v, ht2, hh2, hk2, hf2⟩
  rw [List.nil_append] at hh2
  have HS := Lib.hid (shaSum_any w.heap.size tb v bs w2 ht2 hh2 (by have := HL.out; have := HN.out; omega))
  have HK2 : Hid (Keeps (fun i => i = tb) w w2) := Lib.hid (HK1.out.trans hk2 (fun i h => by
    rcases h with h | h | h
    · exact Or.inl h
    · exact Or.inr (by omega)
    · cases h))
  clear ht2 hh2 hk2 hf2
  go_wp2_with fail
  refine HS.out.mono ?_
  rintro e w3 ⟨g, c, rfl, ht3, ho3, hl3, hk3, hg3⟩
  have HO3 := Lib.hid ho3
  have HT3 := Lib.hid ht3
  have HL3 := Lib.hid hl3
  have HK3 := Lib.hid (HK2.out.trans hk3 (fun i h => Or.inl h))
  have HG3 := Lib.hid (Nat.le_trans HK2.out.size hg3)
  clear ht3 ho3 hl3 hk3 hg3
  go_wp2
  go_ret
  exact ⟨g, c, rfl, HT3.out, HO3.out, HL3.out, HK3.out, HG3.out⟩



end Go.Proofs.YtbhoakohpfdeoaaGreat
