/- Word and Scan of the program are the reference's, at every string and place. -/
import Derived.Test.YtdnkjfcndjmdbaaDoorQx6
import Derived.Test.YtdnkjfcndjmdbaaDoorPw
namespace Go.Proofs.YtdnkjfcndjmdbaaDoor.Pure
open Go.RowKit Go.Proofs.YtdnkjfcndjmdbaaDoor.Q Go.Proofs.YtdnkjfcndjmdbaaDoorW.PrintWords Go.Proofs.YtdnkjfcndjmdbaaDoorW.PrintLast

theorem DfaScans : glossatorlaw11_DfaScans.Pure := by
  intro s a hs _
  obtain ⟨r, h1, h2⟩ := P.scan_ev s a (by omega)
  have h3 := P.word_ev s (by omega)
  refine Ev.rounds (r := true) ?_
  refine Ev.congr (f := fun k => (glossatorref11_Scan.f k s a).bind fun y => if (r.1 == y.1 && (r.2.1 == y.2.1 && (r.2.2.1 == y.2.2.1))) = true then (if (r.2.2.2 == y.2.2.2) = true then ((some (G.wordF s)).bind fun t => (glossatorref11_Word.f k s).bind fun u => some (t == u)) else some false) else some false) (fun k => ?_) ?_
  · unfold glossatorlaw11_DfaScans.f
    rw [h1, show G.dfa_Word.f s = some (G.wordF s) by unfold G.dfa_Word.f; rw [if_pos (by omega)]]
    rfl
  · refine Ev.bind h2 ?_
    simp only [BEq.rfl, Bool.and_self, if_true, Option.bind_some]
    exact Ev.bind h3 (Ev.congr (f := fun _ => some true) (fun k => by simp) (Ev.now _))

end Go.Proofs.YtdnkjfcndjmdbaaDoor.Pure
