/- RelexTwice: its plain law, and its walk. -/
import Derived.Test.YtdnkjfcndjmdbaaDoorPy
import Derived.Test.YtdnkjfcndjmdbaaDoorPf
import Derived.Test.YtdnkjfcndjmdbaaDoorGr
import Derived.Test.YtdnkjfcndjmdbaaDoorQx24
namespace Go.Proofs.YtdnkjfcndjmdbaaDoor.R
open Go.RowKit Go.Proofs.YtdnkjfcndjmdbaaDoorW.PrintWords Go.Proofs.YtdnkjfcndjmdbaaDoorW.PrintMore Q G P

theorem awake13_ev' : Ev (fun k => glossatorlaw13_awake.f k) true := Ev.of (fun k => glossatorlaw13_awake.mono k) glossatorlaw13_awake.true_
theorem ext_more (x y : ByteArray) (p q d : Nat) (hp : p ≤ x.size) (_hq : q ≤ y.size) (hs : x.size + q = y.size + p) (h : x.extract p x.size = y.extract q y.size) : x.extract (p + d) x.size = y.extract (q + d) y.size := by
  have e := congrArg (fun z : ByteArray => z.extract d (x.size - p)) h
  simp only [ByteArray.extract_extract] at e
  rw [show min (p + (x.size - p)) x.size = x.size by omega, show min (q + (x.size - p)) y.size = y.size by omega] at e
  exact e
/-- Two edits, one behind the other, are one. -/
theorem Fit.trans {s t u : ByteArray} {a b c a' b' c' : Nat} (h : Fit s t a b c) (h' : Fit t u a' b' c') : Fit s u (min a a') (b + (max c b' - c)) (c' + (max c b' - b')) := by
  obtain ⟨h1, h2, h3, h4, h5, h6, h7⟩ := h
  obtain ⟨k1, k2, k3, k4, k5, k6, k7⟩ := h'
  have e1 := ext_more u t c' b' (max c b' - b') k4 k2 (by omega) k7
  have e2 := ext_more t s c b (max c b' - c) h4 h2 (by omega) h7
  rw [show b' + (max c b' - b') = c + (max c b' - c) by omega, e2] at e1
  exact ⟨by omega, by omega, by omega, by omega, by omega, fun j hj => (k6 j (by omega)).trans (h6 j (by omega)), e1⟩
theorem around_f (t u : ByteArray) (a b c a' b' c' : Nat) (h1 : a ≤ b) (h2 : a ≤ c) (h3 : c ≤ t.size) (h4 : a' ≤ b') (h5 : a' ≤ c') (h6 : c' ≤ u.size) (hb : b ≤ 40000) (hb' : b' ≤ 40000) (ht : t.size ≤ 40000) (hu : u.size ≤ 40000) :
    G.edits_Around.f ([(⟨a, b, t.extract a c⟩ : S55), (⟨a', b', u.extract a' c'⟩ : S55)] : List S55) = some (((min a a' : Nat) : Int), ((b + (max c b' - c) : Nat) : Int), ((min a a' : Nat) : Int), ((c' + (max c b' - b') : Nat) : Int), 0) := by
  have z1 : (t.extract a c).size = c - a := by rw [ByteArray.size_extract]; omega
  have z2 : (u.extract a' c').size = c' - a' := by rw [ByteArray.size_extract]; omega
  have r0 : rd_T55 [(⟨a, b, t.extract a c⟩ : S55), (⟨a', b', u.extract a' c'⟩ : S55)] 0 = (⟨a, b, t.extract a c⟩ : S55) := rfl
  have r1 : rd_T55 [(⟨a, b, t.extract a c⟩ : S55), (⟨a', b', u.extract a' c'⟩ : S55)] 1 = (⟨a', b', u.extract a' c'⟩ : S55) := rfl
  unfold edits_Around.f
  rw [r0, r1]
  have q0 : edOk (⟨a, b, t.extract a c⟩ : S55) = true := decide_eq_true (by simp only [z1]; omega)
  have q1 : edOk (⟨a', b', u.extract a' c'⟩ : S55) = true := decide_eq_true (by simp only [z2]; omega)
  rw [if_pos ⟨rfl, q0, q1⟩]
  simp only [ar2, ar1, z1, z2]
  have g1 : (if (a' : Int) < a then (a' : Int) else a) = ((min a a' : Nat) : Int) := by split <;> omega
  have g0 : (b : Int) - ((b : Int) - a) + ((c - a : Nat) : Int) = c := by omega
  rw [g0]
  have g2 : (if (c : Int) < b' then (b' : Int) else c) = ((max c b' : Nat) : Int) := by split <;> omega
  rw [g1, g2]
  have g3 : (b : Int) + ((max c b' : Nat) : Int) - c = ((b + (max c b' - c) : Nat) : Int) := by omega
  have g4 : ((max c b' : Nat) : Int) - ((b' : Int) - a') + ((c' - a' : Nat) : Int) = ((c' + (max c b' - b') : Nat) : Int) := by omega
  rw [g3, g4]
/-- The law: of every text, of every two edits. -/
theorem relexTwice_ev (s x z : ByteArray) (y0 y1 y2 y3 : Int) : Ev (fun k => glossatorlaw13_RelexTwice.f k s y0 y1 x y2 y3 z) true := by
  rcases fits_ev s x y0 y1 with hno | ⟨hs, hx, a, b, hab, hb, hfit⟩
  · exact Ev.bind hno (Ev.congr (fun k => if_neg (by simp)) (Ev.bind awake13_ev' (Ev.now _)))
  have hF := newT_fit s x a b hab hb
  have hz := newT_size s x a b hab hb
  obtain ⟨t, ht⟩ : ∃ t, newT s x a b = t := ⟨_, rfl⟩
  rw [ht] at hfit hF hz
  refine Ev.bind hfit (Ev.congr (fun k => if_pos rfl) ?_)
  rcases fits_ev t z y2 y3 with hno | ⟨ht6, hz3, a', b', hab', hb', hfit'⟩
  · exact Ev.bind hno (Ev.congr (fun k => if_neg (by simp)) (Ev.bind awake13_ev' (Ev.now _)))
  have hF' := newT_fit t z a' b' hab' hb'
  have hz' := newT_size t z a' b' hab' hb'
  obtain ⟨u, hu⟩ : ∃ u, newT t z a' b' = u := ⟨_, rfl⟩
  rw [hu] at hfit' hF' hz'
  refine Ev.bind hfit' (Ev.congr (fun k => if_pos rfl) ?_)
  have hF2 := hF.trans hF'
  obtain ⟨f, hf⟩ := fst_ex s a
  obtain ⟨K, I, hE⟩ := ends_ex s t b (a + x.size) _ f rfl
  obtain ⟨f', hf'⟩ := fst_ex t a'
  obtain ⟨K', I', hE'⟩ := ends_ex t u b' (a' + z.size) _ f' rfl
  have har := around_f t u a b (a + x.size) a' b' (a' + z.size) hab hF.2.2.1 hF.2.2.2.1 hab' hF'.2.2.1 hF'.2.2.2.1 (by omega) (by omega) (by omega) (by omega)
  generalize min a a' = A0 at *
  generalize b + (max (a + x.size) b' - (a + x.size)) = B0 at *
  generalize a' + z.size + (max (a + x.size) b' - b') = C0 at *
  obtain ⟨f2, hf2⟩ := fst_ex s A0
  obtain ⟨K2, I2, hE2⟩ := ends_ex s u B0 C0 _ f2 rfl
  have hl := toks_len0 s
  have hlu := toks_len0 u
  have hla : lex_All.f s = some (toks s 0) := by unfold lex_All.f; rw [if_pos (by omega)]
  have hc := hF.2.2.2.1
  have hc' := hF'.2.2.2.1
  refine Ev.congr (f := fun k => (relex_Update.f k (toks s 0) t a b a ((a + x.size : Nat) : Int)).bind fun p => (relex_Update.f k p.1 u a' b' a' ((a' + z.size : Nat) : Int)).bind fun q => (relex_Update.f k (toks s 0) u A0 B0 A0 C0).bind fun v => (if p.2.2.2.2 = 0 then (if q.2.2.2.2 = 0 then (if v.2.2.2.2 = 0 then ((glossatorref12_Same.f k q.1 v.1).bind fun t566 => (if t566 = true then ((glossatorlaw13_awake.f k).bind fun t567 => (some t567)) else (some false))) else (some false)) else (some false)) else (some false))) (fun k => ?_) ?_
  · rw [hla, Option.bind_some]
    refine congrArg (Option.bind _) (funext fun p => congrArg (Option.bind _) (funext fun q => ?_))
    dsimp only
    rw [if_pos (show (0 : Int) ≤ (a : Int) by omega), if_pos (show (a : Int) ≤ ((a + x.size : Nat) : Int) by omega), if_pos (show ((a + x.size : Nat) : Int) ≤ (t.size : Int) by omega), if_pos (show (0 : Int) ≤ (a' : Int) by omega), if_pos (show (a' : Int) ≤ ((a' + z.size : Nat) : Int) by omega), if_pos (show ((a' + z.size : Nat) : Int) ≤ (u.size : Int) by omega)]
    simp only [Int.toNat_natCast]
    rw [har, Option.bind_some]
    simp only [if_true]
  · refine Ev.bind (upd_ev (by omega) (by omega) hF hf K I hE) (Ev.bind (upd_ev (by omega) (by omega) hF' hf' K' I' hE') (Ev.bind (upd_ev (by omega) (by omega) hF2 hf2 K2 I2 hE2) (Ev.congr (fun k => if_pos rfl) (Ev.congr (fun k => if_pos rfl) (Ev.congr (fun k => if_pos rfl) (Ev.bind (sameG_ev (toks u 0) (toks u 0) (by omega)) ?_))))))
    rw [(sameL_iff (toks u 0) (toks u 0)).2 rfl]
    exact Ev.congr (fun k => if_pos rfl) (Ev.bind awake13_ev' (Ev.now _))
end Go.Proofs.YtdnkjfcndjmdbaaDoor.R
namespace Go.Proofs.YtdnkjfcndjmdbaaDoor.G
open Go.RowKit Go.Proofs.YtdnkjfcndjmdbaaDoorW.PrintWords
theorem glossatorlaw13_RelexTwice.walk (a0 : ByteArray) (a1_0 a1_1 : Int) (a1_2 : ByteArray) (a2_0 a2_1 : Int) (a2_2 : ByteArray) (w : World) (_w0 : a0.size ≤ 140737488351232) (hT : Tabs w) :
    Calls Tryd.prog 13 #[.string a0, .agg #[.int .i64 a1_0, .int .i64 a1_1, .string a1_2], .agg #[.int .i64 a2_0, .int .i64 a2_1, .string a2_2]] w fun e w' => e = .returned (.bool true) ∧ Below w.heap.size w w' := by
  obtain ⟨k, h⟩ := Ev.rounds (R.relexTwice_ev a0 a1_2 a2_2 a1_0 a1_1 a2_0 a2_1)
  exact Q.glossatorlaw13_RelexTwice.calls k a0 a1_0 a1_1 a1_2 a2_0 a2_1 a2_2 w h hT
end Go.Proofs.YtdnkjfcndjmdbaaDoor.G
