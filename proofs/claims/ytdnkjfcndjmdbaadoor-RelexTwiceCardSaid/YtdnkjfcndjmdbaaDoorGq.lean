/- A test's facts, in the two spellings that a walk meets. -/
import Derived.Test.YtdnkjfcndjmdbaaDoorWWords
namespace Go.Proofs.YtdnkjfcndjmdbaaDoor.G
theorem qT {α : Type} [BEq α] [LawfulBEq α] {a b : α} (h : a = b) : (a == b) = true ∧ (a != b) = false := ⟨beq_iff_eq.mpr h, bne_eq_false_iff_eq.mpr h⟩
theorem qF {α : Type} [BEq α] [LawfulBEq α] {a b : α} (h : ¬ a = b) : (a == b) = false ∧ (a != b) = true := ⟨beq_eq_false_iff_ne.mpr h, bne_iff_ne.mpr h⟩
theorem dT {p : Prop} [Decidable p] (h : p) : (p = True) ∧ decide p = true := ⟨eq_true h, decide_eq_true h⟩
end Go.Proofs.YtdnkjfcndjmdbaaDoor.G
