/- Comparison of package req's structs; slices.Equal at them. -/
import Derived.Test.YtkaciaehlibidaaGreatReq5
namespace Go.Proofs.YtkaciaehlibidaaGreat
open Go.RowKit
set_option linter.unusedVariables false

def eqS (a b : ByteArray) : Bool := a.toList == b.toList
def eqRQ (r q : RQ) : Bool := r.k == q.k && (r.t == q.t && (r.a == q.a && (r.n == q.n && (r.i == q.i && (r.d == q.d && (eqS r.h q.h && eqS r.s q.s))))))
def eqEV (r q : EV) : Bool := r.k == q.k && (r.f == q.f && (r.t == q.t && (r.a == q.a && (r.n == q.n && (r.i == q.i && (r.d == q.d && (eqS r.h q.h && eqS r.s q.s)))))))
/-- Are two lists alike, one by one? -/
def allF {α : Type} (f : α → α → Bool) : List α → List α → Bool
  | x :: xs, y :: ys => f x y && allF f xs ys
  | _, _ => true
def allB {α : Type} (f : α → α → Bool) (xs ys : List α) : Bool := decide (xs.length = ys.length) && allF f xs ys
theorem allF_snoc {α : Type} (f : α → α → Bool) : ∀ (xs ys : List α) (k : Nat) (hx : k < xs.length) (hy : k < ys.length), allF f (xs.take (k + 1)) (ys.take (k + 1)) = (allF f (xs.take k) (ys.take k) && f xs[k] ys[k])
  | [], _, k, hx, _ => by simp at hx
  | _ :: _, [], k, _, hy => by simp at hy
  | x :: xs, y :: ys, 0, _, _ => by simp [allF]
  | x :: xs, y :: ys, k + 1, hx, hy => by
    have ih := allF_snoc f xs ys k (by simpa using hx) (by simpa using hy)
    simp only [List.take_succ_cons, allF, ih, List.getElem_cons_succ, Bool.and_assoc]
theorem allF_at {α : Type} (f : α → α → Bool) : ∀ (xs ys : List α) (k : Nat) (hx : k < xs.length) (hy : k < ys.length), f xs[k] ys[k] = false → allF f xs ys = false
  | [], _, k, hx, _, _ => by simp at hx
  | _ :: _, [], k, _, hy, _ => by simp at hy
  | x :: xs, y :: ys, 0, _, _, h => by simp only [List.getElem_cons_zero] at h; simp [allF, h]
  | x :: xs, y :: ys, k + 1, hx, hy, h => by
    have ih := allF_at f xs ys k (by simpa using hx) (by simpa using hy) (by simpa using h)
    simp [allF, ih]

set_option maxRecDepth 100000 in
set_option maxHeartbeats 1000000 in
theorem neq_rq (r q : RQ) (w : World) : (binOp .neq 52 (.agg r.cells) (.agg q.cells)).run Tryz.prog w = .ok (.bool (!eqRQ r q)) w := by
  unfold RQ.cells eqRQ eqS
  cases h0 : (r.k == q.k)
  · go_simp; try simp [*]
  · skip
    cases h1 : (r.t == q.t)
    · go_simp; try simp [*]
    · skip
      cases h2 : (r.a == q.a)
      · go_simp; try simp [*]
      · skip
        cases h3 : (r.n == q.n)
        · go_simp; try simp [*]
        · skip
          cases h4 : (r.i == q.i)
          · go_simp; try simp [*]
          · skip
            cases h5 : (r.d == q.d)
            · go_simp; try simp [*]
            · skip
              cases h6 : (r.h.toList == q.h.toList)
              · go_simp; try simp [*]
              · skip
                cases h7 : (r.s.toList == q.s.toList)
                · go_simp; try simp [*]
                · go_simp; try simp [*]
set_option maxRecDepth 100000 in
set_option maxHeartbeats 1000000 in
theorem neq_ev (r q : EV) (w : World) : (binOp .neq 55 (.agg r.cells) (.agg q.cells)).run Tryz.prog w = .ok (.bool (!eqEV r q)) w := by
  unfold EV.cells eqEV eqS
  cases h0 : (r.k == q.k)
  · go_simp; try simp [*]
  · skip
    cases h1 : (r.f == q.f)
    · go_simp; try simp [*]
    · skip
      cases h2 : (r.t == q.t)
      · go_simp; try simp [*]
      · skip
        cases h3 : (r.a == q.a)
        · go_simp; try simp [*]
        · skip
          cases h4 : (r.n == q.n)
          · go_simp; try simp [*]
          · skip
            cases h5 : (r.i == q.i)
            · go_simp; try simp [*]
            · skip
              cases h6 : (r.d == q.d)
              · go_simp; try simp [*]
              · skip
                cases h7 : (r.h.toList == q.h.toList)
                · go_simp; try simp [*]
                · skip
                  cases h8 : (r.s.toList == q.s.toList)
                  · go_simp; try simp [*]
                  · go_simp; try simp [*]



end Go.Proofs.YtkaciaehlibidaaGreat
