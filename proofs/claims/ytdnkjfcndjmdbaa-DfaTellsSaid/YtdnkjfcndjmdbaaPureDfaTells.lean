/- Class, Step and Kind of the scanner are those of the reference, for every number. -/
import Derived.Test.YtdnkjfcndjmdbaaQx2
namespace Go.Proofs.Ytdnkjfcndjmdbaa.Pure
open Go.RowKit Go.Proofs.Ytdnkjfcndjmdbaa.Q Go.Proofs.YtdnkjfcndjmdbaaW.PrintWords Go.Proofs.YtdnkjfcndjmdbaaW.PrintLast

theorem step_in : ∀ s : Nat, s < 35 → ∀ c : Nat, c < 24 → dfa_Step.f (s : Int) c = glossatorref11_Step.f 5 (s : Int) c ∧ (dfa_Step.f (s : Int) c).isSome = true := by decide +kernel
theorem kind_in : ∀ s : Nat, s < 35 → G.dfa_Kind.f (s : Int) = glossatorref11_Kind.f (s : Int) ∧ (G.dfa_Kind.f (s : Int)).isSome = true := by decide +kernel
theorem step_eq (s c : Int) : dfa_Step.f s c = glossatorref11_Step.f 5 s c ∧ (dfa_Step.f s c).isSome = true := by
  by_cases h : (0 ≤ s ∧ s < 35) ∧ (0 ≤ c ∧ c < 24)
  · obtain ⟨⟨h1, h2⟩, h3, h4⟩ := h
    obtain ⟨n, rfl⟩ := Int.eq_ofNat_of_zero_le h1
    obtain ⟨m, rfl⟩ := Int.eq_ofNat_of_zero_le h3
    exact step_in n (by omega) m (by omega)
  · have e1 : dfa_Step.f s c = some (-1) := by
      unfold dfa_Step.f
      (repeat' split) <;> first | rfl | omega
    rw [e1]
    refine ⟨?_, rfl⟩
    by_cases hc : 0 ≤ c ∧ c < 24
    · unfold glossatorref11_Step.f
      rw [if_neg (by omega), decide_eq_false (by omega)]
      simp only [glossatorref11_Step.j0, glossatorref11_Step.j1, glossatorref11_Step.j2]
      rw [beq_eq_false_iff_ne.2 (show s ≠ 4 by omega), beq_eq_false_iff_ne.2 (show s ≠ 5 by omega), beq_eq_false_iff_ne.2 (show s ≠ 12 by omega), beq_eq_false_iff_ne.2 (show s ≠ 14 by omega), beq_eq_false_iff_ne.2 (show s ≠ 16 by omega), beq_eq_false_iff_ne.2 (show s ≠ 18 by omega)]
      simp only [Bool.false_eq_true, if_false]
      repeat rw [if_neg (by omega)]
    · unfold glossatorref11_Step.f
      split
      · rfl
      · rw [decide_eq_true (by omega)]; rfl
theorem kind_eq (s : Int) : G.dfa_Kind.f s = glossatorref11_Kind.f s ∧ (G.dfa_Kind.f s).isSome = true := by
  by_cases h : 0 ≤ s ∧ s < 35
  · obtain ⟨n, rfl⟩ := Int.eq_ofNat_of_zero_le h.1
    exact kind_in n (by omega)
  · have e1 : G.dfa_Kind.f s = some 0 := by
      unfold G.dfa_Kind.f
      (repeat' split) <;> first | rfl | omega
    have e2 : glossatorref11_Kind.f s = some 0 := by
      unfold glossatorref11_Kind.f
      simp only [Option.bind_some]
      (repeat' split) <;> first | rfl | (simp at *; omega)
    rw [e1, e2]; exact ⟨rfl, rfl⟩
theorem DfaTells : glossatorlaw11_DfaTells.Pure := by
  intro a0 a1 a2 _ _ _
  refine ⟨5, ?_⟩
  unfold glossatorlaw11_DfaTells.f G.dfa_Class.f G.glossatorref11_Class.f dfa_States.f dfa_Classes.f
  obtain ⟨h1, h2⟩ := step_eq a1 a2
  obtain ⟨h3, h4⟩ := kind_eq a1
  obtain ⟨x, hx⟩ := Option.isSome_iff_exists.1 h2
  obtain ⟨y, hy⟩ := Option.isSome_iff_exists.1 h4
  rw [← h1, hx, ← h3, hy]
  simp

end Go.Proofs.Ytdnkjfcndjmdbaa.Pure
