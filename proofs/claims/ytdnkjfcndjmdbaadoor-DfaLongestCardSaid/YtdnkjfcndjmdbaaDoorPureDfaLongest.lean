/- What is cut is of its kind, and no longer beginning is of any kind. -/
import Derived.Test.YtdnkjfcndjmdbaaDoorQx8
import Derived.Test.YtdnkjfcndjmdbaaDoorPm
namespace Go.Proofs.YtdnkjfcndjmdbaaDoor.Pure
open Go.RowKit Go.Proofs.YtdnkjfcndjmdbaaDoor.Q Go.Proofs.YtdnkjfcndjmdbaaDoorW.PrintWords Go.Proofs.YtdnkjfcndjmdbaaDoorW.PrintLast

/-- A text of which no longer beginning is a token. -/
theorem longer (u : ByteArray) (w : Nat) (hw : w ≤ u.size) (h : (G.scanE u 0).2.1 < w) (last : Bool) : K.KV (u.extract 0 w) last = 0 := by
  have hsz : (u.extract 0 w).size = w := by simp; omega
  have := K.scan_pre u w hw (by omega) (by omega)
  unfold K.KV
  rw [if_neg (by omega)]
/-- The token alone. -/
theorem alone (u : ByteArray) (h0 : 0 < u.size) : K.KV (u.extract 0 (G.scanE u 0).2.1) ((((G.scanE u 0).2.1 : Nat) : Int) == ((u.size : Nat) : Int)) = G.kindE u 0 := by
  have he := P.end_facts u 0 h0
  have hsz : (u.extract 0 (G.scanE u 0).2.1).size = (G.scanE u 0).2.1 := by simp; omega
  obtain ⟨e1, e2⟩ := K.scan_pre u (G.scanE u 0).2.1 he.2.2.2 (by omega) (Nat.le_refl _)
  unfold K.KV
  rw [if_pos (by omega), if_neg, G.kindE, G.kindE, e1, e2]
  · have : (u.extract 0 (G.scanE u 0).2.1).extract 0 (G.scanE u 0).2.1 = u.extract 0 (G.scanE u 0).2.1 := by
      have h := K.ext_self (u.extract 0 (G.scanE u 0).2.1)
      rw [hsz] at h
      exact h
    rw [this]
  · rintro ⟨h4, hl⟩
    rw [e1] at h4
    have hend : (G.scanE u 0).2.1 = u.size := by
      by_cases hb : bt u (0 : Nat) < 128
      · have hc := G.cls_range (bt u (0 : Nat))
        obtain ⟨c, hcc⟩ := Int.eq_ofNat_of_zero_le hc.1
        have hg := P.goes_start c (by omega)
        have hE := P.scanE_low u 0 h0 hb
        rw [hcc] at hE
        rw [hE] at h4 ⊢
        exact K.S_open u _ 1 hg.1 hg.2 (by omega) h4
      · rw [P.scanE_high u 0 h0 hb] at h4
        simp at h4
    rw [hend] at hl
    simp at hl
theorem more_l0 (u : ByteArray) (hu : u.size ≤ 400) : ∀ d w, u.size + 1 - w = d → (G.scanE u 0).2.1 < w → w ≤ u.size + 1 → Ev (fun k => glossatorlaw11_DfaLongest.l0 k u w) true := by
  intro d
  induction d with
  | zero =>
    intro w hd h1 h2
    refine Ev.step (f := fun _ => some true) (fun k => ?_) (Ev.now _)
    simp only [glossatorlaw11_DfaLongest.l0]
    rw [if_neg (by omega)]
  | succ d ih =>
    intro w hd h1 h2
    have hsz : (u.extract 0 w).size = w := by simp; omega
    have hk := K.kind_ev (u.extract 0 w) ((w : Int) == (u.size : Int)) (by omega) (by omega)
    rw [longer u w (by omega) h1] at hk
    have ew : wrap64 ((w : Int) + 1) = ((w + 1 : Nat) : Int) := by rw [P.w64 _ (by omega) (by omega)]; omega
    refine Ev.step (f := fun k => (glossatorlaw11_kind.f k (u.extract 0 w) ((w : Int) == (u.size : Int))).bind fun t => if t = 0 then glossatorlaw11_DfaLongest.l0 k u (wrap64 ((w : Int) + 1)) else some false) (fun k => ?_) (Ev.bind hk ?_)
    · simp only [glossatorlaw11_DfaLongest.l0]
      rw [if_pos (by omega), if_pos (by omega)]
      rfl
    · refine Ev.congr (fun k => if_pos rfl) ?_
      rw [ew]
      exact ih (w + 1) (by omega) (by omega) (by omega)
theorem DfaLongest : glossatorlaw11_DfaLongest.Pure := by
  intro s a1 hs ha
  refine Ev.rounds (r := true) ?_
  have hb : s.size ≤ 4611686018427387000 := by omega
  by_cases hin : 0 ≤ a1 ∧ a1 < s.size
  · obtain ⟨a, rfl⟩ := Int.eq_ofNat_of_zero_le hin.1
    have hlt : a < s.size := by omega
    have he := P.end_facts s a hlt
    have hf : G.dfa_Scan.f s a = some (G.kindE s a, ((G.scanE s a).2.1 : Int) - a, G.lookE s a, true) := by
      unfold G.dfa_Scan.f; rw [if_pos hb, if_pos (by omega), if_pos (by omega)]; rfl
    by_cases h4 : (s.size : Int) > 400
    · refine Ev.congr (f := fun _ => some true) (fun k => ?_) (Ev.now _)
      unfold glossatorlaw11_DfaLongest.f G.glossatorlaw11_awake.f
      simp only [Option.bind_some, if_true]
      rw [hf]
      simp only [Option.bind_some, if_true]
      rw [if_pos h4, if_pos (by omega), P.w64 _ (by omega) (by omega), decide_eq_true (by omega)]
    · obtain ⟨t1, t2, _⟩ := P.tok_rest s a 0 (by omega) (by omega)
      rw [Nat.add_zero] at t1 t2
      have hsz := P.size_rest s a
      obtain ⟨u, hu⟩ : ∃ u, s.extract a s.size = u := ⟨_, rfl⟩
      rw [hu] at t1 t2 hsz
      have h0 : 0 < u.size := by omega
      have heu := P.end_facts u 0 h0
      have hW : ((G.scanE s a).2.1 : Int) - a = ((G.scanE u 0).2.1 : Nat) := by omega
      have hk := K.kind_ev (u.extract 0 (G.scanE u 0).2.1) ((((G.scanE u 0).2.1 : Nat) : Int) == ((u.size : Nat) : Int)) (by simp; omega) (by simp; omega)
      rw [alone u h0] at hk
      refine Ev.congr (f := fun k => (glossatorlaw11_kind.f k (u.extract 0 (G.scanE u 0).2.1) ((((G.scanE u 0).2.1 : Nat) : Int) == ((u.size : Nat) : Int))).bind fun t161 => glossatorlaw11_DfaLongest.j0 k u (t161 != G.kindE u 0) (G.kindE u 0) ((G.scanE u 0).2.1 : Nat) (G.lookE s a)) (fun k => ?_) (Ev.bind hk ?_)
      · unfold glossatorlaw11_DfaLongest.f G.glossatorlaw11_awake.f
        simp only [Option.bind_some, if_true]
        rw [hf]
        simp only [Option.bind_some, if_true]
        rw [if_neg h4, if_pos (by omega), if_pos (by omega), hW, if_neg (by omega)]
        simp only [Int.toNat_natCast]
        rw [hu, if_neg (by omega), if_pos (by omega), if_pos (by omega), ← t1]
      · refine Ev.step (f := fun k => glossatorlaw11_DfaLongest.l0 k u (((G.scanE u 0).2.1 + 1 : Nat) : Int)) (fun k => ?_) (more_l0 u (by omega) _ _ rfl (by omega) (by omega))
        simp only [glossatorlaw11_DfaLongest.j0]
        rw [if_neg (by simp), P.w64 _ (by omega) (by omega)]
        rfl
  · have hf : G.dfa_Scan.f s a1 = some (0, 0, 0, false) := by
      unfold G.dfa_Scan.f
      rw [if_pos hb]
      by_cases h : 0 ≤ a1
      · rw [if_pos h, if_neg (by omega)]
      · rw [if_neg h]
    refine Ev.congr (f := fun _ => some true) (fun k => ?_) (Ev.now _)
    unfold glossatorlaw11_DfaLongest.f G.glossatorlaw11_awake.f
    simp only [Option.bind_some, if_true]
    rw [hf]
    simp only [Option.bind_some, Bool.false_eq_true, if_false]
    rw [if_pos (by decide)]
    by_cases h : a1 < 0
    · rw [if_pos h]
    · rw [if_neg h, decide_eq_true (by omega)]

end Go.Proofs.YtdnkjfcndjmdbaaDoor.Pure
