/- The tokens have all bytes, each at least one; blanks, and what stands behind a remark. -/
import Derived.Test.YtdnkjfcndjmdbaaDoorQx14
import Derived.Test.YtdnkjfcndjmdbaaDoorPt
namespace Go.Proofs.YtdnkjfcndjmdbaaDoor.Pure
open Go.RowKit Go.Proofs.YtdnkjfcndjmdbaaDoor.Q Go.Proofs.YtdnkjfcndjmdbaaDoorW.PrintWords Go.Proofs.YtdnkjfcndjmdbaaDoorW.PrintLast
open G

/-! ### what kinds the states have -/
theorem kin1 : ∀ st : Nat, st < 35 → rd kinT (st : Int) = 1 → st = 1 := by decide +kernel
theorem kin2 : ∀ st : Nat, st < 35 → rd kinT (st : Int) = 2 → st = 3 := by decide +kernel
theorem word_not (s : ByteArray) : wordF s ≠ 1 ∧ wordF s ≠ 2 := by
  unfold wordF
  split
  · split
    · exact ⟨by decide, by decide⟩
    · split
      · constructor <;> omega
      · exact ⟨by decide, by decide⟩
  · exact ⟨by decide, by decide⟩
theorem st_of (s : ByteArray) (p : Nat) (k : Int) (h : kindE s p = k) (hk : k = 1 ∨ k = 2) : rd kinT (scanE s p).1 = k := by
  unfold kindE at h
  by_cases h7 : (scanE s p).1 = 7
  · rw [if_pos h7] at h
    have := word_not (s.extract p (scanE s p).2.1)
    omega
  · rw [if_neg h7] at h; exact h
theorem S_stop (s : ByteArray) : ∀ d st t, s.size - t = d → t ≤ s.size → (P.S s st t).2 < s.size → goesF (P.S s st t).1 (cls (bt s (P.S s st t).2)) < 0 := by
  intro d
  induction d with
  | zero =>
    intro st t hd ht h
    rw [P.S_eq, if_neg (by omega)] at h
    simp at h; omega
  | succ d ih =>
    intro st t hd ht h
    rw [P.S_eq] at h ⊢
    by_cases h1 : t < s.size
    · rw [if_pos h1] at h ⊢
      by_cases h2 : goesF st (cls (bt s t)) < 0
      · rw [if_pos h2]; exact h2
      · rw [if_neg h2] at h ⊢
        exact ih _ _ (by omega) (by omega) h
    · omega
theorem from1 : ∀ c : Nat, c < 24 → goesF 1 c < 0 ∨ goesF 1 c = 1 := by decide +kernel
theorem to1 : ∀ st : Nat, st < 35 → 1 ≤ st → st ≠ 1 → ∀ c : Nat, c < 24 → goesF (st : Int) c ≠ 1 := by decide +kernel
theorem start1 : ∀ c : Nat, c < 24 → goesF 0 c = 1 → 0 ≤ goesF 1 c := by decide +kernel
theorem stop3 : ∀ c : Nat, c < 24 → goesF 3 c < 0 → c = 2 := by decide +kernel
theorem nat_of (c : Int) (h : 0 ≤ c ∧ c < 24) : ∃ n : Nat, n < 24 ∧ c = n := by
  obtain ⟨n, rfl⟩ := Int.eq_ofNat_of_zero_le h.1
  exact ⟨n, by omega, rfl⟩
theorem S_one (s : ByteArray) : ∀ d t, s.size - t = d → t ≤ s.size → (P.S s 1 t).1 = 1 := by
  intro d
  induction d with
  | zero => intro t hd ht; rw [P.S_eq, if_neg (by omega)]
  | succ d ih =>
    intro t hd ht
    rw [P.S_eq, if_pos (by omega)]
    obtain ⟨c, hc, e⟩ := nat_of _ (cls_range (bt s t))
    rw [e]
    rcases from1 c hc with h | h
    · rw [if_pos h]
    · rw [h, if_neg (by omega)]
      exact ih _ (by omega) (by omega)
theorem S_to1 (s : ByteArray) : ∀ d st t, s.size - t = d → t ≤ s.size → 1 ≤ st → st < 35 → (P.S s st t).1 = 1 → st = 1 := by
  intro d
  induction d with
  | zero => intro st t hd ht _ _ h; rw [P.S_eq, if_neg (by omega)] at h; exact h
  | succ d ih =>
    intro st t hd ht h0 h1 h
    rw [P.S_eq, if_pos (by omega)] at h
    by_cases h2 : goesF st (cls (bt s t)) < 0
    · rw [if_pos h2] at h; exact h
    · rw [if_neg h2] at h
      have hg := P.goes_ok st _ (by omega) h1 (cls_range (bt s t))
      have := ih _ _ (by omega) (by omega) (hg.1 (by omega)) hg.2 h
      obtain ⟨c, hc, e⟩ := nat_of _ (cls_range (bt s t))
      obtain ⟨a, rfl⟩ := Int.eq_ofNat_of_zero_le (show 0 ≤ st by omega)
      rw [e] at this
      by_cases ha : a = 1
      · subst ha; rfl
      · exact absurd this (to1 a (by omega) (by omega) ha c hc)
/-- A blank run begins with a blank and ends ahead of none. -/
theorem blank_is (s : ByteArray) (p : Nat) (hp : p < s.size) (h : kindE s p = 1) : bt s p < 128 ∧ goesF 0 (cls (bt s p)) = 1 ∧ ((scanE s p).2.1 < s.size → goesF 1 (cls (bt s (scanE s p).2.1)) < 0) := by
  have hk := st_of s p 1 h (.inl rfl)
  have he := P.end_facts s p hp
  obtain ⟨a, ha⟩ := Int.eq_ofNat_of_zero_le (show 0 ≤ (scanE s p).1 by omega)
  rw [ha] at hk
  have h1 := kin1 a (by omega) hk
  subst h1
  by_cases hb : bt s p < 128
  · rw [P.scanE_low s p hp hb] at ha ⊢
    have hst : goesF 0 (cls (bt s p)) = 1 := by
      obtain ⟨c, hc, e⟩ := nat_of _ (cls_range (bt s p))
      have hg := P.goes_start c hc
      rw [e] at ha ⊢
      exact S_to1 s _ _ (p + 1) rfl (by omega) hg.1 hg.2 ha
    refine ⟨hb, hst, fun hlt => ?_⟩
    have := S_stop s _ (goesF 0 (cls (bt s p))) (p + 1) rfl (by omega) hlt
    simp only at ha
    rw [ha] at this
    exact this
  · rw [P.scanE_high s p hp hb] at ha; simp at ha
theorem after_blank (s : ByteArray) (p : Nat) (hp : p < s.size) (h : kindE s p = 1) (he : (scanE s p).2.1 < s.size) : kindE s (scanE s p).2.1 ≠ 1 := by
  intro h2
  have h3 := (blank_is s p hp h).2.2 he
  have h4 := (blank_is s _ he h2).2.1
  obtain ⟨c, hc, e⟩ := nat_of _ (cls_range (bt s (scanE s p).2.1))
  rw [e] at h3 h4
  have := start1 c hc h4
  omega
theorem cls2_low : goesF 0 2 = 1 := by decide +kernel
theorem after_line (s : ByteArray) (p : Nat) (hp : p < s.size) (h : kindE s p = 2) (he : (scanE s p).2.1 < s.size) : kindE s (scanE s p).2.1 = 1 := by
  have hk := st_of s p 2 h (.inr rfl)
  have hf := P.end_facts s p hp
  obtain ⟨a, ha⟩ := Int.eq_ofNat_of_zero_le (show 0 ≤ (scanE s p).1 by omega)
  rw [ha] at hk
  have h1 := kin2 a (by omega) hk
  subst h1
  have hs3 : goesF 3 (cls (bt s (scanE s p).2.1)) < 0 := by
    by_cases hb : bt s p < 128
    · rw [P.scanE_low s p hp hb] at ha he ⊢
      have := S_stop s _ (goesF 0 (cls (bt s p))) (p + 1) rfl (by omega) he
      simp only at ha
      rw [ha] at this
      exact this
    · rw [P.scanE_high s p hp hb] at ha; simp at ha
  generalize (scanE s p).2.1 = q at he hs3 ⊢
  obtain ⟨c, hc, e⟩ := nat_of _ (cls_range (bt s q))
  rw [e] at hs3
  have h2 := stop3 c hc hs3
  subst h2
  have hb : bt s q < 128 := by
    by_cases hb : bt s q < 128
    · exact hb
    · rw [P.cls_high _ (by omega)] at e; simp at e
  have h1 : (scanE s q).1 = 1 := by
    rw [P.scanE_low s q he hb, e]
    show (P.S s (goesF 0 2) (q + 1)).1 = 1
    rw [cls2_low]
    exact S_one s _ (q + 1) rfl (by omega)
  unfold kindE
  rw [h1, if_neg (by decide)]
  rfl

theorem whole_l0 (s : ByteArray) (hs : s.size ≤ 40000) : ∀ d n : Nat, (toks s 0).length - n = d → n ≤ (toks s 0).length → Ev (fun k => glossatorlaw12_LexWhole.l0 k s (toks s 0) (P.posT s n 0) n) true := by
  intro d
  have hl := P.toks_len0 s
  induction d with
  | zero =>
    intro n hd hn
    obtain rfl : n = (toks s 0).length := by omega
    have hend := P.posT_end s _ 0 rfl (Nat.zero_le _)
    refine Ev.step (f := fun k => (glossatorlaw12_awake.f k).bind fun t267 => some t267) (fun k => ?_) (Ev.bind P.awake_ev (Ev.now true))
    simp only [glossatorlaw12_LexWhole.l0]
    rw [if_neg (by omega), if_pos (by omega)]
  | succ d ih =>
    intro n hd hn
    have hlt : n < (toks s 0).length := by omega
    have hp := P.posT_lt s n hlt
    have he := scanE_end s _ hp.1
    have hk := P.look_range s _ hp.1
    have h1 := P.posT_succ s n 0 hlt
    have f0 : (rd_T23 (toks s 0) n).f0 = kindE s (P.posT s n 0) := by rw [hp.2]; rfl
    have f1 : (rd_T23 (toks s 0) n).f1 = ((scanE s (P.posT s n 0)).2.1 : Int) - (P.posT s n 0 : Nat) := by rw [hp.2]; rfl
    have f2 : (rd_T23 (toks s 0) n).f2 = lookE s (P.posT s n 0) := by rw [hp.2]; rfl
    have go : ∀ k, glossatorlaw12_LexWhole.l0 k s (toks s 0) (wrap64 ((P.posT s n 0 : Int) + (rd_T23 (toks s 0) n).f1)) (wrap64 ((n : Int) + 1)) = glossatorlaw12_LexWhole.l0 k s (toks s 0) (P.posT s (n + 1) 0) ((n + 1 : Nat) : Int) := fun k => by
      rw [f1, h1, P.w64 _ (by omega) (by omega), P.w64 _ (by omega) (by omega)]
      congr 1; omega
    refine Ev.step (f := fun k => glossatorlaw12_LexWhole.j1 k s (toks s 0) (P.posT s n 0) n false) (fun k => ?_) ?_
    · simp only [glossatorlaw12_LexWhole.l0]
      rw [if_pos (by omega), if_pos (by omega), if_neg (by omega), decide_eq_false (by omega)]
    refine Ev.step (f := fun k => glossatorlaw12_LexWhole.l0 k s (toks s 0) (P.posT s (n + 1) 0) ((n + 1 : Nat) : Int)) (fun k => ?_) (ih (n + 1) (by omega) (by omega))
    simp only [glossatorlaw12_LexWhole.j1, Bool.false_eq_true, if_false]
    rw [if_pos (by omega), if_pos (by omega), go k]
    by_cases h0 : (n : Int) > 0
    · rw [if_pos h0]
      obtain ⟨m, rfl⟩ : ∃ m, n = m + 1 := ⟨n - 1, by omega⟩
      have hm := P.posT_lt s m (by omega)
      have hm1 := P.posT_succ s m 0 (by omega)
      have ew : wrap64 (((m + 1 : Nat) : Int) - 1) = (m : Int) := by rw [P.w64 _ (by omega) (by omega)]; omega
      have g0 : (rd_T23 (toks s 0) m).f0 = kindE s (P.posT s m 0) := by rw [hm.2]; rfl
      have hb := after_blank s _ hm.1
      have hli := after_line s _ hm.1
      rw [← hm1] at hb hli
      rw [ew, g0, f0]
      by_cases a1 : kindE s (P.posT s (m + 1) 0) = 1
      · rw [if_pos a1, if_pos (by omega), if_pos (by omega), if_neg (fun h => hb h hp.1 a1)]
        split <;> first | rfl | rw [if_pos a1]
      · rw [if_neg a1, if_pos (by omega), if_pos (by omega), if_neg (fun h => a1 (hli h hp.1))]
    · rw [if_neg h0]

theorem LexWhole : glossatorlaw12_LexWhole.Pure := by
  intro s hs0
  refine Ev.rounds (r := true) ?_
  by_cases h : (s.size : Int) > 40000
  · refine Ev.congr (f := fun k => (glossatorlaw12_awake.f k).bind fun t263 => some t263) (fun k => ?_) (Ev.bind P.awake_ev (Ev.now true))
    unfold glossatorlaw12_LexWhole.f
    rw [if_pos h]
  · refine Ev.congr (f := fun k => glossatorlaw12_LexWhole.l0 k s (toks s 0) ((P.posT s 0 0 : Nat) : Int) ((0 : Nat) : Int)) (fun k => ?_) (whole_l0 s (by omega) _ 0 rfl (Nat.zero_le _))
    unfold glossatorlaw12_LexWhole.f
    rw [if_neg h, P.lexAll_f s (by omega)]; rfl

end Go.Proofs.YtdnkjfcndjmdbaaDoor.Pure
