/- Whatever stands behind the bytes that a token has and looked at, it is the same. -/
import Derived.Test.YtdnkjfcndjmdbaaDoorQx9
import Derived.Test.YtdnkjfcndjmdbaaDoorPl
namespace Go.Proofs.YtdnkjfcndjmdbaaDoor.Pure
open Go.RowKit Go.Proofs.YtdnkjfcndjmdbaaDoor.Q Go.Proofs.YtdnkjfcndjmdbaaDoorW.PrintWords Go.Proofs.YtdnkjfcndjmdbaaDoorW.PrintLast

theorem DfaLooks : glossatorlaw11_DfaLooks.Pure := by
  intro s a b hs _ hb
  refine ⟨1, ?_⟩
  unfold glossatorlaw11_DfaLooks.f G.glossatorlaw11_awake.f
  simp only [Option.bind_some, if_true]
  by_cases h : 0 ≤ a ∧ a < s.size
  · obtain ⟨t, rfl⟩ := Int.eq_ofNat_of_zero_le h.1
    have hlt : t < s.size := by omega
    have he := P.end_facts s t hlt
    have hl := P.look_range s t hlt
    have hf : G.dfa_Scan.f s t = some (G.kindE s t, ((G.scanE s t).2.1 : Int) - t, G.lookE s t, true) := by
      unfold G.dfa_Scan.f; rw [if_pos (by omega), if_pos (by omega), if_pos (by omega)]; rfl
    rw [hf]
    simp only [Option.bind_some, if_true]
    rw [P.w64 ((t : Int) + _) (by omega) (by omega), P.w64 _ (by omega) (by omega)]
    by_cases hm : ((t : Int) + (((G.scanE s t).2.1 : Int) - t)) + G.lookE s t > s.size
    · rw [decide_eq_true hm]
      simp only [glossatorlaw11_DfaLooks.j0, if_true]
    · rw [decide_eq_false hm]
      simp only [glossatorlaw11_DfaLooks.j0, Bool.false_eq_true, if_false]
      rw [P.w64 ((t : Int) + _) (by omega) (by omega), P.w64 _ (by omega) (by omega), if_pos (by omega), if_pos (by omega)]
      obtain ⟨m, hmm⟩ := Int.eq_ofNat_of_zero_le (show 0 ≤ ((t : Int) + (((G.scanE s t).2.1 : Int) - t)) + G.lookE s t by omega)
      rw [hmm, Int.toNat_natCast]
      have hsz : (s.extract 0 m).size = m := by simp; omega
      rw [if_pos (by omega)]
      -- the bytes that were looked at, and something else
      have hag : ∀ j : Nat, ((t + j : Nat) : Int) < (G.scanE s t).2.1 + G.lookE s t → t + j < (s.extract 0 m ++ b).size ∧ bt (s.extract 0 m ++ b) (t + j : Nat) = bt s (t + j : Nat) := by
        intro j hj
        have hjm : t + j < m := by omega
        have h1 : t + j < (s.extract 0 m ++ b).size := by rw [ByteArray.size_append]; omega
        refine ⟨h1, ?_⟩
        rw [P.bt_list _ _ h1, P.bt_list _ _ (by omega)]
        congr 2
        have e : (s.extract 0 m ++ b).data.toList = s.data.toList.take m ++ b.data.toList := by
          rw [ByteArray.data_append, Array.toList_append, Lib.extract_data]; simp
        simp only [e]
        rw [List.getElem_append_left (by simp; omega), List.getElem_take]
      have hloc := P.tok_local s (s.extract 0 m ++ b) t t hlt (by omega) hag
      have hf2 : G.dfa_Scan.f (s.extract 0 m ++ b) t = some (G.kindE s t, ((G.scanE s t).2.1 : Int) - t, G.lookE s t, true) := by
        unfold G.dfa_Scan.f
        rw [if_pos (by rw [ByteArray.size_append]; omega), if_pos (by omega), if_pos (by omega), Int.toNat_natCast, hloc.2.1, hloc.2.2.2]
        congr 3; omega
      rw [hf2]
      simp only [Option.bind_some]
      rw [if_pos (by omega), if_pos (by omega), Int.toNat_natCast]
      have hr := P.tok_rest s t 0 (by omega) (by omega)
      have hf3 : G.dfa_Scan.f (s.extract t s.size) 0 = some (G.kindE s t, ((G.scanE s t).2.1 : Int) - t, G.lookE s t, true) := by
        unfold G.dfa_Scan.f
        rw [if_pos (by rw [P.size_rest]; omega), if_pos (by omega), if_pos (by rw [P.size_rest]; omega), show (0 : Int).toNat = 0 from rfl, hr.1, hr.2.2]
        have := hr.2.1
        rw [Nat.add_zero] at this ⊢
        congr 3; omega
      rw [hf3]
      simp
  · have hf : G.dfa_Scan.f s a = some (0, 0, 0, false) := by
      unfold G.dfa_Scan.f
      rw [if_pos (by omega)]
      by_cases h0 : 0 ≤ a
      · rw [if_pos h0, if_neg (fun h1 => h ⟨h0, h1⟩)]
      · rw [if_neg h0]
    rw [hf]
    simp [glossatorlaw11_DfaLooks.j0]

end Go.Proofs.YtdnkjfcndjmdbaaDoor.Pure
