/- RelexKeeps: its plain law, and its walk. -/
import Derived.Test.YtdnkjfcndjmdbaaDoorPy
import Derived.Test.YtdnkjfcndjmdbaaDoorGn
import Derived.Test.YtdnkjfcndjmdbaaDoorPf
import Derived.Test.YtdnkjfcndjmdbaaDoorQx23
namespace Go.Proofs.YtdnkjfcndjmdbaaDoor.R
open Go.RowKit Go.Proofs.YtdnkjfcndjmdbaaDoorW.PrintWords Go.Proofs.YtdnkjfcndjmdbaaDoorW.PrintMore Q G P

theorem awake13_ev : Ev (fun k => glossatorlaw13_awake.f k) true := Ev.of (fun k => glossatorlaw13_awake.mono k) glossatorlaw13_awake.true_
/-- The law: of every text, of every edit. -/
theorem relexKeeps_ev (s x : ByteArray) (y0 y1 : Int) : Ev (fun k => glossatorlaw13_RelexKeeps.f k s y0 y1 x) true := by
  rcases fits_ev s x y0 y1 with hno | ⟨hs, hx, a, b, hab, hb, hfit⟩
  · exact Ev.bind hno (Ev.congr (fun k => if_neg (by simp)) (Ev.bind awake13_ev (Ev.now _)))
  · have hF := newT_fit s x a b hab hb
    have hz := newT_size s x a b hab hb
    obtain ⟨t, ht⟩ : ∃ t, newT s x a b = t := ⟨_, rfl⟩
    rw [ht] at hfit hF hz
    obtain ⟨f, hf⟩ := fst_ex s a
    obtain ⟨K, I, hE⟩ := ends_ex s t b (a + x.size) _ f rfl
    have hl := toks_len0 s
    have hlt := toks_len0 t
    obtain ⟨q1, q2, q3, q4, q5, q6⟩ := ends_facts s t a b _ f K I hF hf hE
    have hla : lex_All.f s = some (toks s 0) := by unfold lex_All.f; rw [if_pos (by omega)]
    have hri : lex_Right.f t (toks t 0) = some true := by unfold lex_Right.f; rw [if_pos (by omega), (sameL_iff _ _).2 rfl]
    have hj : Ev (fun k => glossatorlaw13_RelexKeeps.j0 k t (toks s 0) (toks t 0) f K I false) true := by
      refine Ev.step (f := fun k => (glossatorref12_Same.f k ((toks s 0).take f) ((toks t 0).take f)).bind fun t501 => (if t501 = true then ((glossatorref12_Same.f k ((toks s 0).drop K) ((toks t 0).drop I)).bind fun t510 => (if t510 = true then ((glossatorlaw13_awake.f k).bind fun t511 => (some t511)) else (some false))) else (some false))) (fun k => ?_) ?_
      · simp only [glossatorlaw13_RelexKeeps.j0, Bool.false_eq_true, if_false]
        rw [hri]
        simp only [Option.bind_some, if_true, Int.toNat_natCast]
        rw [if_pos (by omega), if_pos (by omega), if_pos (by omega), if_pos (show 0 ≤ (K : Int) by omega), if_pos (by omega), if_pos (show 0 ≤ (I : Int) by omega), if_pos (by omega)]
      · refine Ev.bind (sameG_ev ((toks s 0).take f) ((toks t 0).take f) (by rw [List.length_take]; omega)) ?_
        rw [(sameL_iff _ _).2 q5]
        refine Ev.congr (fun k => if_pos rfl) (Ev.bind (sameG_ev ((toks s 0).drop K) ((toks t 0).drop I) (by rw [List.length_drop]; omega)) ?_)
        rw [(sameL_iff _ _).2 q6]
        exact Ev.congr (fun k => if_pos rfl) (Ev.bind awake13_ev (Ev.now _))
    refine Ev.bind hfit (Ev.congr (fun k => if_pos rfl) ?_)
    refine Ev.congr (f := fun k => (relex_Update.f k (toks s 0) t a b a ((a + x.size : Nat) : Int)).bind fun bt485 => (if bt485.2.2.2.2 = 0 then (if bt485.2.1 < 0 then (glossatorlaw13_RelexKeeps.j0 k t (toks s 0) bt485.1 bt485.2.1 bt485.2.2.1 bt485.2.2.2.1 true) else (if bt485.2.1 > bt485.2.2.1 then (glossatorlaw13_RelexKeeps.j0 k t (toks s 0) bt485.1 bt485.2.1 bt485.2.2.1 bt485.2.2.2.1 true) else (if bt485.2.2.1 > ((toks s 0).length : Int) then (glossatorlaw13_RelexKeeps.j0 k t (toks s 0) bt485.1 bt485.2.1 bt485.2.2.1 bt485.2.2.2.1 true) else (if bt485.2.1 > bt485.2.2.2.1 then (glossatorlaw13_RelexKeeps.j0 k t (toks s 0) bt485.1 bt485.2.1 bt485.2.2.1 bt485.2.2.2.1 true) else (glossatorlaw13_RelexKeeps.j0 k t (toks s 0) bt485.1 bt485.2.1 bt485.2.2.1 bt485.2.2.2.1 (decide (bt485.2.2.2.1 > (bt485.1.length : Int)))))))) else (glossatorlaw13_RelexKeeps.j0 k t (toks s 0) bt485.1 bt485.2.1 bt485.2.2.1 bt485.2.2.2.1 true))) (fun k => by rw [hla, Option.bind_some]) (Ev.bind (upd_ev (by omega) (by omega) hF hf K I hE) (Ev.congr (fun k => if_pos rfl) ?_))
    refine Ev.congr (f := fun k => glossatorlaw13_RelexKeeps.j0 k t (toks s 0) (toks t 0) f K I false) (fun k => ?_) hj
    rw [if_neg (by simp only; omega), if_neg (by simp only; omega), if_neg (by simp only; omega), if_neg (by simp only; omega), decide_eq_false (by simp only; omega)]
end Go.Proofs.YtdnkjfcndjmdbaaDoor.R
namespace Go.Proofs.YtdnkjfcndjmdbaaDoor.G
open Go.RowKit Go.Proofs.YtdnkjfcndjmdbaaDoorW.PrintWords
theorem glossatorlaw13_RelexKeeps.walk (a0 : ByteArray) (a1_0 a1_1 : Int) (a1_2 : ByteArray) (w : World) (_w0 : a0.size ≤ 140737488351232) (hT : Tabs w) :
    Calls Tryd.prog 12 #[.string a0, .agg #[.int .i64 a1_0, .int .i64 a1_1, .string a1_2]] w fun e w' => e = .returned (.bool true) ∧ Below w.heap.size w w' := by
  obtain ⟨k, h⟩ := Ev.rounds (R.relexKeeps_ev a0 a1_2 a1_0 a1_1)
  exact Q.glossatorlaw13_RelexKeeps.calls k a0 a1_0 a1_1 a1_2 w h hT
end Go.Proofs.YtdnkjfcndjmdbaaDoor.G
