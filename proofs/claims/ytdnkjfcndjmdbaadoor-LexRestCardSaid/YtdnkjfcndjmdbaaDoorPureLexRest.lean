/- What is left of a text, from a token on, has the tokens from that one on. -/
import Derived.Test.YtdnkjfcndjmdbaaDoorQx16
import Derived.Test.YtdnkjfcndjmdbaaDoorPt
namespace Go.Proofs.YtdnkjfcndjmdbaaDoor.Pure
open Go.RowKit Go.Proofs.YtdnkjfcndjmdbaaDoor.Q Go.Proofs.YtdnkjfcndjmdbaaDoorW.PrintWords Go.Proofs.YtdnkjfcndjmdbaaDoorW.PrintLast

theorem LexRest : glossatorlaw12_LexRest.Pure := by
  intro s a hs0 ha
  obtain ⟨K3, h3⟩ : ∃ K, ∀ k, K ≤ k → glossatorlaw12_awake.f k = some true := P.awake_ev
  by_cases h : (s.size : Int) > 4000
  · refine ⟨K3, ?_⟩
    unfold glossatorlaw12_LexRest.f
    rw [if_pos h, h3 _ (Nat.le_refl _)]; rfl
  · have hs : s.size ≤ 40000 := by omega
    by_cases hl : (G.toks s 0).length = 0
    · refine ⟨K3, ?_⟩
      unfold glossatorlaw12_LexRest.f
      rw [if_neg h, P.lexAll_f s hs, Option.bind_some, if_pos (by omega), h3 _ (Nat.le_refl _)]; rfl
    · have hlen := P.toks_len0 s
      obtain ⟨n, hn, hM⟩ := P.modT a (G.toks s 0).length (by omega) (by omega)
      have hp := P.posT_lt s n hn
      obtain ⟨K1, h1⟩ : ∃ K, ∀ k, K ≤ k → lex_Spans.f k (G.toks s 0) = some (P.spansT s) := P.spans_ev s hs
      have hd := P.toks_drop s n 0 (Nat.zero_le _) (by omega)
      have hr := P.toks_rest s (P.posT s n 0) hd.2.1 _ 0 rfl
      rw [Nat.add_zero] at hr
      have hll : (G.toks s (P.posT s n 0)).length ≤ 40000 := by rw [← hd.1, List.length_drop]; omega
      obtain ⟨K2, h2⟩ : ∃ K, ∀ k, K ≤ k → glossatorref12_Same.f k (G.toks s (P.posT s n 0)) (G.toks s (P.posT s n 0)) = some true := P.same_ev (G.toks s (P.posT s n 0)) hll
      refine ⟨K1 + K2 + K3, ?_⟩
      unfold glossatorlaw12_LexRest.f
      rw [if_neg h, P.lexAll_f s hs, Option.bind_some, if_neg (by omega), if_neg (P.u64_len _ (by omega) (by omega)), h1 _ (by omega), Option.bind_some]
      simp only [hM, P.spansT_rd s n hn]
      have e0 : (P.spanF s n).f0 = ((P.posT s n 0 : Nat) : Int) := rfl
      rw [if_pos (by omega), if_pos (by rw [P.spansT_len]; omega), e0, if_pos (by omega), if_pos (by omega), Int.toNat_natCast, P.lexAll_f _ (by rw [P.size_rest]; omega), Option.bind_some, if_pos (by omega), Int.toNat_natCast, hd.1, hr, h2 _ (by omega), Option.bind_some, if_pos rfl, h3 _ (by omega)]
      rfl

end Go.Proofs.YtdnkjfcndjmdbaaDoor.Pure
