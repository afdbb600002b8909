/- RelexUpdates: its plain law, and its walk. -/
import Derived.Test.YtdnkjfcndjmdbaaDoorPv
import Derived.Test.YtdnkjfcndjmdbaaDoorPy
import Derived.Test.YtdnkjfcndjmdbaaDoorPx
import Derived.Test.YtdnkjfcndjmdbaaDoorPf
import Derived.Test.YtdnkjfcndjmdbaaDoorQx21
namespace Go.Proofs.YtdnkjfcndjmdbaaDoor.R
open Go.RowKit Go.Proofs.YtdnkjfcndjmdbaaDoorW.PrintWords Go.Proofs.YtdnkjfcndjmdbaaDoorW.PrintMore Q G P

theorem upd13_ev (s t : ByteArray) (hs : s.size ≤ 40000) (ht : t.size ≤ 40000) (a b c f K I : Nat) (hF : Fit s t a b c) (hf : Fst s a f) (hE : Ends s t b c f K I) :
    Ev (fun k => glossatorref13_Update.f k s t a b a c) (toks t 0, (f : Int), (K : Int), (I : Int)) :=
  Ev.bind (all_ev s hs) (Ev.bind (all_ev t ht) (Ev.bind (num_ev hs ht hF hf K I hE) (Ev.now _)))
/-- The law: of every text, of every edit. -/
theorem relexUpdates_ev (s x : ByteArray) (y0 y1 : Int) : Ev (fun k => glossatorlaw13_RelexUpdates.f k s y0 y1 x) true := by
  rcases fits_ev s x y0 y1 with hno | ⟨hs, hx, a, b, hab, hb, hfit⟩
  · refine Ev.bind hno (Ev.congr (fun k => if_neg (by simp)) (Ev.now _))
  · have hF := newT_fit s x a b hab hb
    have hz := newT_size s x a b hab hb
    obtain ⟨t, ht⟩ : ∃ t, newT s x a b = t := ⟨_, rfl⟩
    rw [ht] at hfit hF hz
    obtain ⟨f, hf⟩ := fst_ex s a
    obtain ⟨K, I, hE⟩ := ends_ex s t b (a + x.size) _ f rfl
    have hl := toks_len0 s
    have hlt := toks_len0 t
    refine Ev.bind hfit (Ev.congr (fun k => if_pos rfl) (Ev.bind (all_ev s (by omega)) ?_))
    refine Ev.congr (f := fun k => (relex_Update.f k (toks s 0) t a b a ((a + x.size : Nat) : Int)).bind fun bt446 => ((glossatorref13_Update.f k s t a b a ((a + x.size : Nat) : Int)).bind fun bt453 => (if bt446.2.2.2.2 = 0 then ((glossatorref12_Same.f k bt446.1 bt453.1).bind fun t459 => (if t459 = true then (if bt446.2.1 = bt453.2.1 then (if bt446.2.2.1 = bt453.2.2.1 then (if bt446.2.2.2.1 = bt453.2.2.2 then ((glossatorref12_Same.f k (toks s 0) (toks s 0)).bind fun t460 => (some t460)) else (some false)) else (some false)) else (some false)) else (some false))) else (some false)))) (fun k => ?_) ?_
    · simp only [Option.bind_some, List.nil_append, List.length_nil]
      rw [if_pos (by omega)]
    · refine Ev.bind (upd_ev (by omega) (by omega) hF hf K I hE) (Ev.bind (upd13_ev s t (by omega) (by omega) a b _ f K I hF hf hE) (Ev.congr (fun k => if_pos rfl) (Ev.bind (sameG_ev (toks t 0) (toks t 0) (by omega)) ?_)))
      rw [(sameL_iff (toks t 0) (toks t 0)).2 rfl]
      refine Ev.congr (fun k => if_pos rfl) (Ev.congr (fun k => if_pos rfl) (Ev.congr (fun k => if_pos rfl) (Ev.congr (fun k => if_pos rfl) (Ev.bind (sameG_ev (toks s 0) (toks s 0) (by omega)) ?_))))
      rw [(sameL_iff (toks s 0) (toks s 0)).2 rfl]
      exact Ev.now _
end Go.Proofs.YtdnkjfcndjmdbaaDoor.R
namespace Go.Proofs.YtdnkjfcndjmdbaaDoor.G
open Go.RowKit Go.Proofs.YtdnkjfcndjmdbaaDoorW.PrintWords
theorem glossatorlaw13_RelexUpdates.walk (a0 : ByteArray) (a1_0 a1_1 : Int) (a1_2 : ByteArray) (w : World) (_w0 : a0.size ≤ 140737488351232) (hT : Tabs w) :
    Calls Tryd.prog 8 #[.string a0, .agg #[.int .i64 a1_0, .int .i64 a1_1, .string a1_2]] w fun e w' => e = .returned (.bool true) ∧ Below w.heap.size w w' := by
  obtain ⟨k, h⟩ := Ev.rounds (R.relexUpdates_ev a0 a1_2 a1_0 a1_1)
  exact Q.glossatorlaw13_RelexUpdates.calls k a0 a1_0 a1_1 a1_2 w h hT
end Go.Proofs.YtdnkjfcndjmdbaaDoor.G
