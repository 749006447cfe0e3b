/- Events, plainly; contracts of Event.number, Event.text, req.has, out.done, Req.event. -/
import Derived.Test.YtadejcpifabpoaaReq1
namespace Go.Proofs.Ytadejcpifabpoaa
open Go.RowKit
set_option linter.unusedVariables false

structure EV where
  k : Int
  f : Int
  t : Int
  a : Int
  n : Int
  i : Int
  d : Int
  h : ByteArray
  s : ByteArray
def EV.num (e : EV) : Nat → Int
  | 1 => e.f
  | 2 => e.t
  | 3 => e.a
  | 4 => e.n
  | 5 => e.i
  | 6 => e.d
  | _ => e.k
def EV.setN (e : EV) (x : Int) : Nat → EV
  | 1 => { e with f := x }
  | 2 => { e with t := x }
  | 3 => { e with a := x }
  | 4 => { e with n := x }
  | 5 => { e with i := x }
  | 6 => { e with d := x }
  | _ => { e with k := x }
def EV.txt (e : EV) (j : Nat) : ByteArray := if j = 7 then e.h else e.s
def EV.setT (e : EV) (x : ByteArray) (j : Nat) : EV := if j = 7 then { e with h := x } else { e with s := x }
def EV.cells (e : EV) : Array Value := #[.int .i64 e.k, .int .i64 e.f, .int .i64 e.t, .int .i64 e.a, .int .i64 e.n, .int .i64 e.i, .int .i64 e.d, .string e.h, .string e.s]
theorem EV.cell_num (e : EV) (j : Nat) (hj : j ≤ 6) : e.cells[j]? = some (.int .i64 (e.num j)) := by
  match j, hj with
  | 0, _ => rfl
  | 1, _ => rfl
  | 2, _ => rfl
  | 3, _ => rfl
  | 4, _ => rfl
  | 5, _ => rfl
  | 6, _ => rfl
theorem EV.cell_txt (e : EV) (j : Nat) (hj : j = 7 ∨ j = 8) : e.cells[j]? = some (.string (e.txt j)) := by
  rcases hj with rfl | rfl <;> rfl
theorem EV.set_num (e : EV) (x : Int) (j : Nat) (hj : j ≤ 6) : e.cells.setIfInBounds j (.int .i64 x) = (e.setN x j).cells := by
  match j, hj with
  | 0, _ => rfl
  | 1, _ => rfl
  | 2, _ => rfl
  | 3, _ => rfl
  | 4, _ => rfl
  | 5, _ => rfl
  | 6, _ => rfl
theorem EV.set_txt (e : EV) (x : ByteArray) (j : Nat) (hj : j = 7 ∨ j = 8) : e.cells.setIfInBounds j (.string x) = (e.setT x j).cells := by
  rcases hj with rfl | rfl <;> rfl
/-- The signs of numbers: which field, how many bytes. -/
def numSign (c : Int) : Option (Nat × Int) :=
  if c = 102 then some (1, 1) else if c = 116 then some (2, 1) else if c = 97 then some (3, 1) else if c = 110 then some (4, 8) else if c = 105 then some (5, 2) else if c = 100 then some (6, 8) else none
def txtSign (c : Int) : Nat := if c = 104 then 7 else 8
theorem numSign_in {c : Int} {j : Nat} {z : Int} (h : numSign c = some (j, z)) : 1 ≤ j ∧ j ≤ 6 ∧ 1 ≤ z ∧ z ≤ 8 := by
  unfold numSign at h
  repeat' split at h
  all_goals simp only [Option.some.injEq, Prod.mk.injEq, reduceCtorEq] at h
  all_goals omega
theorem txtSign_in (c : Int) : txtSign c = 7 ∨ txtSign c = 8 := by unfold txtSign; split <;> simp
def hasN (k : Int) (ev : Bool) : List Int :=
  if k = 1 then (if ev then [102, 116, 97, 110] else [116, 97, 110]) else if k = 2 then (if ev then [102, 116, 97, 110, 105, 104, 100] else [116, 97, 110, 104, 100]) else if k = 3 then [105, 115] else if k = 4 then [105] else []
def bytesOf (l : List Int) : ByteArray := ⟨(l.map fun z => UInt8.ofNat z.toNat).toArray⟩

set_option maxHeartbeats 1000000 in
theorem has_any (k : Int) (ev : Bool) (w : World) :
    Calls Try.prog 54 #[.int .i64 k, .bool ev] w fun e w' => e = .returned (.string (bytesOf (hasN k ev))) ∧ w = w' := by
  by_cases h1 : k = 1
  · subst h1
    cases ev
    all_goals
      go_enter Try.func54, Try.ntmps54
      go_wp2
      go_ret
      exact ⟨rfl, rfl⟩
  · by_cases h2 : k = 2
    · subst h2
      cases ev
      all_goals
        go_enter Try.func54, Try.ntmps54
        go_wp2
        go_ret
        exact ⟨rfl, rfl⟩
    · by_cases h3 : k = 3
      · subst h3
        go_enter Try.func54, Try.ntmps54
        go_wp2
        all_goals
          go_ret
          exact ⟨rfl, rfl⟩
      · by_cases h4 : k = 4
        · subst h4
          go_enter Try.func54, Try.ntmps54
          go_wp2
          all_goals
            go_ret
            exact ⟨rfl, rfl⟩
        · have b1 : (k == 1) = false := by simp [h1]
          have b2 : (k == 2) = false := by simp [h2]
          have b3 : (k == 3) = false := by simp [h3]
          have b4 : (k == 4) = false := by simp [h4]
          have HH := Lib.hid (show bytesOf (hasN k ev) = ⟨#[]⟩ by simp [hasN, h1, h2, h3, h4, bytesOf])
          clear h1 h2 h3 h4
          go_enter Try.func54, Try.ntmps54
          go_wp2
          all_goals
            go_ret
            rw [HH.out]
            exact ⟨rfl, rfl⟩

set_option maxHeartbeats 1000000 in
theorem number_num (R : Nat) (c : Int) (j : Nat) (z : Int) (w : World) (hR : R < w.heap.size) (hc : numSign c = some (j, z)) :
    Calls Try.prog 88 #[.pointer (some ⟨R, 0, none⟩), .int .i32 c] w fun e w' => e = .returned (.tuple #[.pointer (some ⟨R, j, none⟩), .int .i64 z]) ∧ w = w' := by
  have hx : (c = 102 ∧ j = 1 ∧ z = 1) ∨ (c = 116 ∧ j = 2 ∧ z = 1) ∨ (c = 97 ∧ j = 3 ∧ z = 1) ∨ (c = 110 ∧ j = 4 ∧ z = 8) ∨ (c = 105 ∧ j = 5 ∧ z = 2) ∨ (c = 100 ∧ j = 6 ∧ z = 8) := by
    unfold numSign at hc
    repeat' split at hc
    all_goals simp only [Option.some.injEq, Prod.mk.injEq, reduceCtorEq] at hc
    all_goals omega
  clear hc
  rcases hx with ⟨rfl, rfl, rfl⟩ | ⟨rfl, rfl, rfl⟩ | ⟨rfl, rfl, rfl⟩ | ⟨rfl, rfl, rfl⟩ | ⟨rfl, rfl, rfl⟩ | ⟨rfl, rfl, rfl⟩
  all_goals
    go_enter Try.func88, Try.ntmps88
    go_wp2
    go_ret2
    exact ⟨rfl, rfl⟩

set_option maxHeartbeats 1000000 in
theorem number_txt (R : Nat) (c : Int) (w : World) (hc : numSign c = none) :
    Calls Try.prog 88 #[.pointer (some ⟨R, 0, none⟩), .int .i32 c] w fun e w' => e = .returned (.tuple #[.pointer none, .int .i64 32]) ∧ w = w' := by
  have hx : ¬ c = 102 ∧ ¬ c = 116 ∧ ¬ c = 97 ∧ ¬ c = 110 ∧ ¬ c = 105 ∧ ¬ c = 100 := by
    unfold numSign at hc
    repeat' split at hc
    all_goals simp only [reduceCtorEq] at hc
    all_goals omega
  obtain ⟨h1, h2, h3, h4, h5, h6⟩ := hx
  have b1 : (c == 102) = false := by simp [h1]
  have b2 : (c == 116) = false := by simp [h2]
  have b3 : (c == 97) = false := by simp [h3]
  have b4 : (c == 110) = false := by simp [h4]
  have b5 : (c == 105) = false := by simp [h5]
  have b6 : (c == 100) = false := by simp [h6]
  clear hc h1 h2 h3 h4 h5 h6
  go_enter Try.func88, Try.ntmps88
  go_wp2
  go_ret2
  exact ⟨rfl, rfl⟩

set_option maxHeartbeats 1000000 in
theorem text_any (R : Nat) (c : Int) (w : World) :
    Calls Try.prog 89 #[.pointer (some ⟨R, 0, none⟩), .int .i32 c] w fun e w' => e = .returned (.pointer (some ⟨R, txtSign c, none⟩)) ∧ w = w' := by
  by_cases hc : c = 104
  · subst hc
    go_enter Try.func89, Try.ntmps89
    go_wp2
    go_ret
    exact ⟨rfl, rfl⟩
  · have b1 : (c == 104) = false := by simp [hc]
    have HT := Lib.hid (show txtSign c = 8 by simp [txtSign, hc])
    clear hc
    go_enter Try.func89, Try.ntmps89
    go_wp2
    go_ret
    rw [HT.out]
    exact ⟨rfl, rfl⟩

/-- What is told in the end. -/
def outEnd (st : List Int × Bool) : List Int × Int := if st.2 = true then ([], 1) else (st.1, 0)
theorem buf_form {T : TypeId} {w : World} {p : Nat} {v : Value} {bs : List Int} {x : Value} (h : BufAt T w p v bs x) : ∃ ao cap, v = .slice ao bs.length cap := by
  rcases h.2.1.2 with ⟨hv, hn⟩ | ⟨g, cap, cur, hv, _⟩
  · exact ⟨none, 0, by rw [hv, hn]⟩
  · exact ⟨_, cap, hv⟩
set_option maxHeartbeats 1000000 in
theorem out_done (p : Nat) (v : Value) (bs : List Int) (bad : Bool) (w : World) (h : BufAt 80 w p v bs (.bool bad)) :
    Calls Try.prog 55 #[.pointer (some ⟨p, 0, none⟩)] w fun en w' => (∃ ao cap, en = .returned (.tuple #[.slice ao (outEnd (bs, bad)).1.length cap, .int .i64 (outEnd (bs, bad)).2]) ∧ (.slice ao (outEnd (bs, bad)).1.length cap = v ∨ (outEnd (bs, bad)).1 = [] ∧ ao = none ∧ cap = 0)) ∧ w = w' := by
  obtain ⟨ao, cap, rfl⟩ := buf_form h
  obtain ⟨k0, k1, _, _⟩ := h.cells
  clear h
  cases bad
  · go_enter Try.func55, Try.ntmps55
    go_wp2
    go_ret2
    exact ⟨⟨ao, cap, rfl, Or.inl rfl⟩, rfl⟩
  · go_enter Try.func55, Try.ntmps55
    go_wp2
    go_ret2
    exact ⟨⟨none, 0, rfl, Or.inr ⟨rfl, rfl, rfl⟩⟩, rfl⟩

/-- A request. -/
structure RQ where
  k : Int
  t : Int
  a : Int
  n : Int
  i : Int
  d : Int
  h : ByteArray
  s : ByteArray
def RQ.cells (r : RQ) : Array Value := #[.int .i64 r.k, .int .i64 r.t, .int .i64 r.a, .int .i64 r.n, .int .i64 r.i, .int .i64 r.d, .string r.h, .string r.s]
def RQ.ev (r : RQ) : EV := ⟨r.k, 0, r.t, r.a, r.n, r.i, r.d, r.h, r.s⟩
set_option maxRecDepth 100000 in
set_option maxHeartbeats 1000000 in
theorem req_event (r : RQ) (w : World) :
    Calls Try.prog 53 #[.agg r.cells] w fun e w' => e = .returned (.agg r.ev.cells) ∧ Below w.heap.size w w' := by
  unfold RQ.cells
  go_enter Try.func53, Try.ntmps53
  go_wp2
  refine bodyPost_ret (v := .agg #[.int .i64 r.k, .int .i64 0, .int .i64 r.t, .int .i64 r.a, .int .i64 r.n, .int .i64 r.i, .int .i64 r.d, .string r.h, .string r.s]) (by simp [results, Try.results53, go_sem]) rfl ⟨rfl, ((Below.refl _ _).alloc (Nat.le_refl _) _).alloc (by simp) _⟩

end Go.Proofs.Ytadejcpifabpoaa
