/- A token hangs on its own bytes, and those that were looked at. -/
import Derived.Test.YtdnkjfcndjmdbaaDoorQx15
import Derived.Test.YtdnkjfcndjmdbaaDoorPt
namespace Go.Proofs.YtdnkjfcndjmdbaaDoor.Pure
open Go.RowKit Go.Proofs.YtdnkjfcndjmdbaaDoor.Q Go.Proofs.YtdnkjfcndjmdbaaDoorW.PrintWords Go.Proofs.YtdnkjfcndjmdbaaDoorW.PrintLast

theorem bt_app (a b : ByteArray) (i : Nat) (h : i < a.size) : bt (a ++ b) i = bt a i := by
  have h2 : i < (a ++ b).size := by rw [ByteArray.size_append]; omega
  rw [P.bt_list _ _ h2, P.bt_list _ _ h]
  congr 2
  simp [ByteArray.data_append, h]

theorem tok_eq (s t : ByteArray) (p : Nat) (h1 : G.kindE t 0 = G.kindE s p) (h2 : (G.scanE t 0).2.1 + p = (G.scanE s p).2.1 + 0) (h3 : G.lookE t 0 = G.lookE s p) : G.tokAt t 0 = G.tokAt s p := by
  unfold G.tokAt
  rw [h1, h3, show ((G.scanE t 0).2.1 : Int) - (0 : Nat) = ((G.scanE s p).2.1 : Int) - p from by omega]

theorem looks_j1 (s t : ByteArray) (n : Nat) (ht : t.size ≤ 40000) (hn : n < (G.toks s 0).length) (h0 : 0 < t.size) (he : G.tokAt t 0 = G.tokAt s (P.posT s n 0)) :
    Ev (fun k => glossatorlaw12_LexLooks.j1 k n (G.toks s 0) t) true := by
  refine Ev.step (f := fun k => (glossatorlaw12_awake.f k).bind fun t292 => some t292) (fun k => ?_) (Ev.bind P.awake_ev (Ev.now true))
  have hp := P.posT_lt s n hn
  have hh : G.toks t 0 = G.tokAt t 0 :: G.toks t (G.scanE t 0).2.1 := by rw [G.toks_eq, if_pos h0]
  have h1 : rd_T23 (G.toks t 0) 0 = G.tokAt s (P.posT s n 0) := by rw [hh, ← he]; rfl
  have h2 : 0 < (G.toks t 0).length := by rw [hh]; simp
  simp only [glossatorlaw12_LexLooks.j1]
  rw [P.lexAll_f t ht, Option.bind_some, if_neg (by omega), if_pos (by omega), if_pos (by omega), if_pos (by omega), h1, hp.2, if_neg (by simp)]

theorem LexLooks : glossatorlaw12_LexLooks.Pure := by
  intro s other a hs0 ho0 ha
  refine Ev.rounds (r := true) ?_
  by_cases h : (s.size : Int) > 4000 ∨ (other.size : Int) > 4000
  · refine Ev.congr (f := fun k => glossatorlaw12_LexLooks.j0 k s other a true) (fun k => ?_) (Ev.step (f := fun k => (glossatorlaw12_awake.f k).bind fun t275 => some t275) (fun k => ?_) (Ev.bind P.awake_ev (Ev.now true)))
    · unfold glossatorlaw12_LexLooks.f
      by_cases h1 : (s.size : Int) > 4000
      · rw [if_pos h1]
      · rw [if_neg h1, decide_eq_true (by omega)]
    · simp only [glossatorlaw12_LexLooks.j0, if_true]
  · have hs : s.size ≤ 4000 := by omega
    have ho : other.size ≤ 4000 := by omega
    refine Ev.congr (f := fun k => glossatorlaw12_LexLooks.j0 k s other a false) (fun k => ?_) ?_
    · unfold glossatorlaw12_LexLooks.f
      rw [if_neg (by omega), decide_eq_false (by omega)]
    have hlen := P.toks_len0 s
    by_cases hl : (G.toks s 0).length = 0
    · refine Ev.step (f := fun k => (glossatorlaw12_awake.f k).bind fun t279 => some t279) (fun k => ?_) (Ev.bind P.awake_ev (Ev.now true))
      simp only [glossatorlaw12_LexLooks.j0, Bool.false_eq_true, if_false]
      rw [P.lexAll_f s (by omega), Option.bind_some, if_pos (by omega)]
    · obtain ⟨n, hn, hM⟩ := P.modT a (G.toks s 0).length (by omega) (by omega)
      have hp := P.posT_lt s n hn
      have hsu := P.posT_succ s n 0 hn
      have he := G.scanE_end s _ hp.1
      have hk := P.look_range s _ hp.1
      obtain ⟨K1, h1⟩ : ∃ K, ∀ k, K ≤ k → lex_Spans.f k (G.toks s 0) = some (P.spansT s) := P.spans_ev s (by omega)
      have e0 : (P.spanF s n).f0 = ((P.posT s n 0 : Nat) : Int) := rfl
      have e1 : (P.spanF s n).f1 = ((G.scanE s (P.posT s n 0)).2.1 : Int) := by unfold P.spanF; rw [hsu]
      have e2 : (rd_T23 (G.toks s 0) n).f2 = G.lookE s (P.posT s n 0) := by rw [hp.2]; rfl
      by_cases hb : ((G.scanE s (P.posT s n 0)).2.1 : Int) + G.lookE s (P.posT s n 0) ≤ s.size
      · obtain ⟨m, hm⟩ : ∃ m : Nat, ((G.scanE s (P.posT s n 0)).2.1 : Int) + G.lookE s (P.posT s n 0) = (m : Int) := Int.eq_ofNat_of_zero_le (by omega)
        obtain ⟨t, htd⟩ : ∃ t, t = s.extract (P.posT s n 0) m ++ other := ⟨_, rfl⟩
        have hx : (s.extract (P.posT s n 0) m).size = m - P.posT s n 0 := by simp; omega
        have hz : t.size = (m - P.posT s n 0) + other.size := by rw [htd, ByteArray.size_append, hx]
        obtain ⟨h0, hk1, hk2, hk3⟩ := P.tok_local s t (P.posT s n 0) 0 hp.1 hb (fun j hj => by
          refine ⟨by omega, ?_⟩
          rw [htd, Nat.zero_add, bt_app _ _ _ (by omega), P.bt_ext _ _ _ _ (by omega) (by omega)])
        obtain ⟨K2, h2⟩ : ∃ K, ∀ k, K ≤ k → glossatorlaw12_LexLooks.j1 k n (G.toks s 0) t = some true := looks_j1 s t n (by omega) hn h0 (tok_eq s t _ hk1 hk2 hk3)
        refine ⟨K1 + K2 + 1, fun k hk' => ?_⟩
        obtain ⟨k, rfl⟩ : ∃ k', k = k' + 1 := ⟨k - 1, by omega⟩
        simp only [glossatorlaw12_LexLooks.j0, Bool.false_eq_true, if_false]
        rw [P.lexAll_f s (by omega), Option.bind_some, if_neg (by omega), if_neg (P.u64_len _ (by omega) (by omega)), h1 _ (by omega), Option.bind_some]
        simp only [hM, P.spansT_rd s n hn]
        rw [if_pos (by omega), if_pos (by rw [P.spansT_len]; omega), e0, e1, e2, if_pos (by omega), if_pos (by omega), if_pos (by omega), hm, P.w64 _ (by omega) (by omega), if_pos (by omega), if_pos (by omega), Int.toNat_natCast, Int.toNat_natCast, if_pos (by omega), ← htd]
        exact h2 k (by omega)
      · have hd := P.toks_drop s n 0 (Nat.zero_le _) (by omega)
        obtain ⟨K2, h2⟩ : ∃ K, ∀ k, K ≤ k → glossatorlaw12_LexLooks.j1 k n (G.toks s 0) (s.extract (P.posT s n 0) s.size) = some true := looks_j1 s (s.extract (P.posT s n 0) s.size) n (by rw [P.size_rest]; omega) hn (by rw [P.size_rest]; omega) (by
          have := P.tokAt_rest s (P.posT s n 0) 0 hd.2.1 (by omega)
          rw [this, Nat.add_zero])
        refine ⟨K1 + K2 + 1, fun k hk' => ?_⟩
        obtain ⟨k, rfl⟩ : ∃ k', k = k' + 1 := ⟨k - 1, by omega⟩
        simp only [glossatorlaw12_LexLooks.j0, Bool.false_eq_true, if_false]
        rw [P.lexAll_f s (by omega), Option.bind_some, if_neg (by omega), if_neg (P.u64_len _ (by omega) (by omega)), h1 _ (by omega), Option.bind_some]
        simp only [hM, P.spansT_rd s n hn]
        rw [if_pos (by omega), if_pos (by rw [P.spansT_len]; omega), e0, e1, e2, if_pos (by omega), if_pos (by omega), if_pos (by omega), P.w64 _ (by omega) (by omega), if_neg (by omega), Int.toNat_natCast]
        exact h2 k (by omega)

end Go.Proofs.YtdnkjfcndjmdbaaDoor.Pure
