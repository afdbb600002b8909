/- Plain: two lists of tokens, the same or not. -/
import Derived.Test.YtdnkjfcndjmdbaaDoorQx0
namespace Go.Proofs.YtdnkjfcndjmdbaaDoor.G
open Q (S23)
def eqT (x y : S23) : Bool := x.f0 == y.f0 && (x.f1 == y.f1 && x.f2 == y.f2)
def sameL : List S23 → List S23 → Bool
  | [], [] => true
  | x :: xs, y :: ys => eqT x y && sameL xs ys
  | _, _ => false
theorem eqT_iff (x y : S23) : eqT x y = true ↔ x = y := by
  cases x; cases y; simp [eqT]
theorem sameL_iff : ∀ a b : List S23, sameL a b = true ↔ a = b
  | [], [] => by simp [sameL]
  | [], _ :: _ => by simp [sameL]
  | _ :: _, [] => by simp [sameL]
  | x :: xs, y :: ys => by simp [sameL, eqT_iff, sameL_iff xs ys]
theorem sameL_no {a b : List S23} (h : a ≠ b) : sameL a b = false := by
  cases h2 : sameL a b with
  | false => rfl
  | true => exact absurd ((sameL_iff a b).1 h2) h
end Go.Proofs.YtdnkjfcndjmdbaaDoor.G
