/- Token behind token a string is gone through, without a gap. -/
import Derived.Test.YtdnkjfcndjmdbaaDoorQx9
import Derived.Test.YtdnkjfcndjmdbaaDoorPl
namespace Go.Proofs.YtdnkjfcndjmdbaaDoor.Pure
open Go.RowKit Go.Proofs.YtdnkjfcndjmdbaaDoor.Q Go.Proofs.YtdnkjfcndjmdbaaDoorW.PrintWords Go.Proofs.YtdnkjfcndjmdbaaDoorW.PrintLast

theorem all_l0 (s : ByteArray) (hs : s.size ≤ 20000) : ∀ d t : Nat, s.size - t = d → t ≤ s.size → Ev (fun k => glossatorlaw11_DfaAll.l0 k s t) true := by
  intro d
  induction d using Nat.strongRecOn with
  | ind d ih =>
    intro t hd ht
    have hb : s.size ≤ 4611686018427387000 := by omega
    by_cases hlt : t < s.size
    · have he := P.end_facts s t hlt
      have hl := P.look_range s t hlt
      have hk := P.kind_pos s t hlt
      have hf : G.dfa_Scan.f s t = some (G.kindE s t, ((G.scanE s t).2.1 : Int) - t, G.lookE s t, true) := by
        unfold G.dfa_Scan.f; rw [if_pos hb, if_pos (by omega), if_pos (by omega)]; rfl
      refine Ev.step (f := fun k => glossatorlaw11_DfaAll.j1 k s t false (G.kindE s t) (((G.scanE s t).2.1 : Int) - t) (G.lookE s t)) (fun k => ?_) ?_
      · simp only [glossatorlaw11_DfaAll.l0]
        rw [if_pos (by omega), hf]
        simp only [Option.bind_some, if_true]
        rw [if_neg (by omega), if_neg (by omega), if_neg (by omega), beq_eq_false_iff_ne.2 (by omega)]
      · refine Ev.step (f := fun k => glossatorlaw11_DfaAll.l0 k s ((G.scanE s t).2.1 : Nat)) (fun k => ?_) (ih (s.size - (G.scanE s t).2.1) (by omega) _ rfl (by omega))
        simp only [glossatorlaw11_DfaAll.j1, Bool.false_eq_true, if_false]
        rw [P.w64 ((t : Int) + _) (by omega) (by omega), P.w64 ((s.size : Int) + 1) (by omega) (by omega), P.w64 _ (by omega) (by omega), if_neg (by omega)]
        congr 1; omega
    · have hf : G.dfa_Scan.f s t = some (0, 0, 0, false) := by
        unfold G.dfa_Scan.f; rw [if_pos hb, if_pos (by omega), if_neg (by omega)]
      refine Ev.step (f := fun _ => some true) (fun k => ?_) (Ev.now _)
      simp only [glossatorlaw11_DfaAll.l0]
      rw [if_neg (by omega), hf]
      simp only [Option.bind_some]
      rw [if_pos (by omega)]; rfl
theorem DfaAll : glossatorlaw11_DfaAll.Pure := by
  intro s hs
  refine Ev.rounds (r := true) ?_
  by_cases h : (s.size : Int) > 20000
  · refine Ev.congr (f := fun _ => some true) (fun k => ?_) (Ev.now _)
    unfold glossatorlaw11_DfaAll.f G.glossatorlaw11_awake.f
    simp only [Option.bind_some, if_true]
    rw [if_pos h]
  · refine Ev.congr (f := fun k => glossatorlaw11_DfaAll.l0 k s ((0 : Nat) : Int)) (fun k => ?_) (all_l0 s (by omega) s.size 0 rfl (by omega))
    unfold glossatorlaw11_DfaAll.f G.glossatorlaw11_awake.f
    simp only [Option.bind_some, if_true]
    rw [if_neg h]; rfl

end Go.Proofs.YtdnkjfcndjmdbaaDoor.Pure
