/- Plain: the kind of bytes by the document's words (layer 11's own 'kind') is what the machine says of them. -/
import Derived.Test.YtdnkjfcndjmdbaaDoorPl
import Derived.Test.YtdnkjfcndjmdbaaDoorGg
import Derived.Test.YtdnkjfcndjmdbaaDoorQx7
namespace Go.Proofs.YtdnkjfcndjmdbaaDoor.K
open Go.RowKit Go.Proofs.YtdnkjfcndjmdbaaDoorW.PrintWords Q G P

theorem byteN (s : ByteArray) (t : Nat) : ∃ n : Nat, n < 256 ∧ bt s t = (n : Int) := by
  have := bt_range s t
  obtain ⟨n, hn⟩ := Int.eq_ofNat_of_zero_le (show 0 ≤ bt s t by omega)
  exact ⟨n, by omega, hn⟩
theorem clsN (s : ByteArray) (t : Nat) : ∃ c : Nat, c < 24 ∧ cls (bt s t) = (c : Int) := by
  have h := cls_range (bt s t)
  obtain ⟨c, hc⟩ := Int.eq_ofNat_of_zero_le h.1
  exact ⟨c, by omega, hc⟩
theorem bcls : ∀ n : Nat, n < 256 → (((n : Int) = 32 ∨ (n : Int) = 9 ∨ (n : Int) = 10 ∨ (n : Int) = 13) ↔ (cls n = 1 ∨ cls n = 2)) ∧ (((n : Int) = 47) ↔ (cls n = 7)) ∧ (((n : Int) = 34) ↔ (cls n = 5)) ∧ (((n : Int) = 92) ↔ (cls n = 6)) ∧ (((n : Int) = 42) ↔ (cls n = 8)) ∧ (((n : Int) = 10 ∨ (n : Int) = 13) ↔ (cls n = 2)) ∧ ((48 ≤ (n : Int) ∧ (n : Int) ≤ 57) ↔ cls n = 4) := by decide +kernel
theorem g1 : ∀ c : Nat, c < 24 → (c = 1 ∨ c = 2 → goesF 1 c = 1) ∧ (¬ (c = 1 ∨ c = 2) → goesF 1 c < 0) := by decide +kernel
theorem g2 : ∀ c : Nat, c < 24 → (c = 7 → goesF 2 c = 3) ∧ (c = 8 → goesF 2 c = 4) ∧ (¬ (c = 7 ∨ c = 8) → goesF 2 c < 0) := by decide +kernel
theorem g3 : ∀ c : Nat, c < 24 → (¬ c = 2 → goesF 3 c = 3) ∧ (¬ ¬ c = 2 → goesF 3 c < 0) := by decide +kernel
theorem g4 : ∀ c : Nat, c < 24 → 0 ≤ goesF 4 c ∧ 0 ≤ goesF 5 c ∧ (c = 8 → goesF 4 c = 5) ∧ (¬ c = 8 → goesF 4 c = 4) ∧ (c = 7 → goesF 5 c = 6) ∧ (c = 8 → goesF 5 c = 5) ∧ (¬ (c = 7 ∨ c = 8) → goesF 5 c = 4) := by decide +kernel
theorem g7 : ∀ c : Nat, c < 24 → (c = 3 ∨ c = 4 → goesF 7 c = 7) ∧ (¬ (c = 3 ∨ c = 4) → goesF 7 c < 0) := by decide +kernel
theorem g8 : ∀ c : Nat, c < 24 → (c = 4 → goesF 8 c = 8) ∧ (¬ c = 4 → goesF 8 c < 0) := by decide +kernel
theorem g9 : ∀ c : Nat, c < 24 → (c = 5 → goesF 9 c = 11) ∧ (c = 6 → goesF 9 c = 10) ∧ (c = 2 → goesF 9 c < 0) ∧ (¬ (c = 5 ∨ c = 6 ∨ c = 2) → goesF 9 c = 9) := by decide +kernel
theorem g10 : ∀ c : Nat, c < 24 → (c = 2 → goesF 10 c < 0) ∧ (¬ c = 2 → goesF 10 c = 9) := by decide +kernel
theorem dead6 : looksB 6 = false := by decide +kernel
theorem dead11 : looksB 11 = false := by decide +kernel
theorem kinV : rd kinT 1 = 1 ∧ rd kinT 2 = 36 ∧ rd kinT 3 = 2 ∧ rd kinT 4 = 4 ∧ rd kinT 5 = 4 ∧ rd kinT 6 = 3 ∧ rd kinT 8 = 7 ∧ rd kinT 9 = 9 ∧ rd kinT 10 = 9 ∧ rd kinT 11 = 8 ∧ rd kinT 34 = 5 := by decide +kernel

/-! ### the machine -/
/-- A state that keeps to itself at some classes, and ends at all others. -/
theorem S_loop (s : ByteArray) (st : Int) (C : Nat → Prop) (h0 : 0 ≤ st) (hg : ∀ c : Nat, c < 24 → (C c → goesF st c = st) ∧ (¬ C c → goesF st c < 0)) : ∀ d t, s.size - t = d → t ≤ s.size →
    (S s st t).1 = st ∧ t ≤ (S s st t).2 ∧ (S s st t).2 ≤ s.size ∧ (∀ j : Nat, t ≤ j → j < (S s st t).2 → ∀ c : Nat, cls (bt s j) = c → C c) ∧ ((S s st t).2 < s.size → ∀ c : Nat, cls (bt s ((S s st t).2 : Nat)) = c → ¬ C c) := by
  intro d
  induction d with
  | zero =>
    intro t hd ht
    rw [S_eq, if_neg (by omega)]
    exact ⟨rfl, Nat.le_refl _, ht, fun j h1 h2 => by simp only at h2; omega, fun h => by simp only at h; omega⟩
  | succ d ih =>
    intro t hd ht
    obtain ⟨c, hc, ec⟩ := clsN s t
    rw [S_eq, if_pos (by omega), ec]
    by_cases h : C c
    · rw [(hg c hc).1 h, if_neg (by omega)]
      obtain ⟨i1, i2, i3, i4, i5⟩ := ih (t + 1) (by omega) (by omega)
      refine ⟨i1, by omega, i3, fun j h1 h2 b hb => ?_, i5⟩
      by_cases e : j = t
      · subst e
        rw [ec] at hb
        have : c = b := by omega
        exact this ▸ h
      · exact i4 j (by omega) h2 b hb
    · rw [if_pos ((hg c hc).2 h)]
      refine ⟨rfl, Nat.le_refl _, ht, fun j h1 h2 => by simp only at h2; omega, fun _ b hb => ?_⟩
      simp only at hb
      rw [ec] at hb
      have : c = b := by omega
      exact this ▸ h
/-- Where the machine stops ahead of the end, it goes nowhere. -/
theorem S_stop (s : ByteArray) : ∀ d st t, s.size - t = d → 1 ≤ st → st < 35 → t ≤ s.size → (S s st t).2 < s.size → goesF (S s st t).1 (cls (bt s ((S s st t).2 : Nat))) < 0 := by
  intro d
  induction d with
  | zero =>
    intro st t hd h0 h1 ht h
    rw [S_eq, if_neg (by omega)] at h; simp only at h; omega
  | succ d ih =>
    intro st t hd h0 h1 ht
    rw [S_eq, if_pos (by omega)]
    have hc := cls_range (bt s t)
    have hg := goes_ok st (cls (bt s t)) (by omega) h1 hc
    split
    · intro _; assumption
    · exact ih _ (t + 1) (by omega) (hg.1 (by omega)) hg.2 (by omega)
theorem S_open (s : ByteArray) (st : Int) (t : Nat) (h0 : 1 ≤ st) (h1 : st < 35) (ht : t ≤ s.size) (h : (S s st t).1 = 4 ∨ (S s st t).1 = 5) : (S s st t).2 = s.size := by
  have hle := S_le s _ st t rfl h0 h1 ht
  by_cases e : (S s st t).2 < s.size
  · have := S_stop s _ st t rfl h0 h1 ht e
    obtain ⟨c, hc, ec⟩ := clsN s (S s st t).2
    rw [ec] at this
    rcases h with h | h <;> rw [h] at this
    · have := (g4 c hc).1; omega
    · have := (g4 c hc).2.1; omega
  · omega
/-- A text that is cut behind where the machine stops. -/
theorem S_pre (u : ByteArray) (w : Nat) (hw : w ≤ u.size) : ∀ d st t, u.size - t = d → 1 ≤ st → st < 35 → t ≤ w → (S u st t).2 ≤ w → S (u.extract 0 w) st t = S u st t := by
  have hsz : (u.extract 0 w).size = w := by simp; omega
  intro d
  induction d with
  | zero =>
    intro st t hd h0 h1 ht h
    rw [S_eq, S_eq u, if_neg (by omega), if_neg (by omega)]
  | succ d ih =>
    intro st t hd h0 h1 ht h
    have hc := cls_range (bt u t)
    have hg := goes_ok st (cls (bt u t)) (by omega) h1 hc
    rw [S_eq u, if_pos (by omega)] at h ⊢
    by_cases hn : goesF st (cls (bt u t)) < 0
    · rw [if_pos hn]
      rw [S_eq]
      by_cases htw : t < w
      · rw [if_pos (by omega), bt_ext u 0 w t (by omega) hw, Nat.zero_add, if_pos hn]
      · rw [if_neg (by omega)]
    · rw [if_neg hn] at h ⊢
      have hle := S_le u _ (goesF st (cls (bt u t))) (t + 1) rfl (hg.1 (by omega)) hg.2 (by omega)
      rw [S_eq, if_pos (by omega), bt_ext u 0 w t (by omega) hw, Nat.zero_add, if_neg hn]
      exact ih _ (t + 1) (by omega) (hg.1 (by omega)) hg.2 (by omega) h
theorem next_le (v : ByteArray) (t : Nat) (r n : Int) (ht : t < v.size) (h : nextI v t = some (r, n)) : ((Utf8.decode v t).2 : Int) = n ∧ (t : Int) + n ≤ v.size := by
  have h1 := (dec_I v t).1
  rw [h] at h1
  have h2 : ((Utf8.decode v t).2 : Int) = n := (Prod.mk.inj h1).2
  have := dec_le v t ht
  exact ⟨h2, by omega⟩
theorem dec_pre (u : ByteArray) (w : Nat) (hw : w ≤ u.size) (h0 : 0 < w) (hd : (Utf8.decode u 0).2 ≤ w) : (Utf8.decode (u.extract 0 w) 0).2 = (Utf8.decode u 0).2 := by
  have hsz : (u.extract 0 w).size = w := by simp; omega
  have hb : ∀ j : Nat, j < w → bt (u.extract 0 w) j = bt u j := fun j hj => by rw [bt_ext u 0 w j (by omega) hw, Nat.zero_add]
  have hb0 := hb 0 h0
  cases hn : nextI u 0 with
  | some p =>
    obtain ⟨r, n⟩ := p
    obtain ⟨e1, e2⟩ := next_le u 0 r n (by omega) hn
    have h1 : nextI (u.extract 0 w) 0 = some (r, n) := by
      unfold nextI at hn ⊢
      rw [hb0]
      exact decI_some _ _ _ _ _ _ _ _ _ r n hn (by omega) (fun h => hb 1 (by omega)) (fun h => hb 2 (by omega)) (fun h => hb 3 (by omega))
    have := (next_le (u.extract 0 w) 0 r n (by omega) h1).1
    omega
  | none =>
    have e1 := ((dec_I u 0).2.1 hn).2
    cases hm : nextI (u.extract 0 w) 0 with
    | none => rw [((dec_I (u.extract 0 w) 0).2.1 hm).2, e1]
    | some p =>
      obtain ⟨r, n⟩ := p
      obtain ⟨e3, e4⟩ := next_le (u.extract 0 w) 0 r n (by omega) hm
      have h1 : nextI u 0 = some (r, n) := by
        unfold nextI at hm ⊢
        rw [← hb0]
        exact decI_some _ _ _ _ _ _ _ _ _ r n hm (by omega) (fun h => (hb 1 (by omega)).symm) (fun h => (hb 2 (by omega)).symm) (fun h => (hb 3 (by omega)).symm)
      rw [h1] at hn; cases hn
/-- A token cut alone. -/
theorem scan_pre (u : ByteArray) (w : Nat) (hw : w ≤ u.size) (h0 : 0 < w) (h : (scanE u 0).2.1 ≤ w) : (scanE (u.extract 0 w) 0).1 = (scanE u 0).1 ∧ (scanE (u.extract 0 w) 0).2.1 = (scanE u 0).2.1 := by
  have hsz : (u.extract 0 w).size = w := by simp; omega
  have hb0 : bt (u.extract 0 w) (0 : Nat) = bt u (0 : Nat) := by rw [bt_ext u 0 w 0 (by omega) hw]
  by_cases hb : bt u (0 : Nat) < 128
  · obtain ⟨c, hc, ec⟩ := clsN u 0
    have hg := goes_start c hc
    have e1 := scanE_low u 0 (by omega) hb
    rw [scanE_low (u.extract 0 w) 0 (by omega) (by rw [hb0]; exact hb), e1, hb0, ec]
    rw [e1, ec] at h
    rw [S_pre u w hw _ _ _ rfl hg.1 hg.2 (by omega) h]
    exact ⟨rfl, rfl⟩
  · have e1 := scanE_high u 0 (by omega) hb
    rw [e1] at h
    rw [scanE_high (u.extract 0 w) 0 (by omega) (by rw [hb0]; exact hb), e1, dec_pre u w hw h0 (by simpa using h)]
    exact ⟨rfl, rfl⟩
theorem ext_self (u : ByteArray) : u.extract 0 u.size = u := by simp

/-! ### what the kind of bytes must be -/
def KV (u : ByteArray) (last : Bool) : Int :=
  if (scanE u 0).2.1 = u.size then (if ((scanE u 0).1 = 4 ∨ (scanE u 0).1 = 5) ∧ last = false then 0 else kindE u 0) else 0
def KS (u : ByteArray) (last : Bool) (x : Int × Nat) : Int :=
  if x.2 = u.size then (if (x.1 = 4 ∨ x.1 = 5) ∧ last = false then 0 else if x.1 = 7 then wordF u else rd kinT x.1) else 0
theorem KV_low (u : ByteArray) (last : Bool) (h0 : 0 < u.size) (hb : bt u (0 : Nat) < 128) : KV u last = KS u last (S u (goesF 0 (cls (bt u (0 : Nat)))) 1) := by
  unfold KV KS kindE
  rw [scanE_low u 0 h0 hb]
  simp only [Nat.zero_add]
  split
  · rename_i h
    rw [h, ext_self]
  · rfl
theorem KV_high (u : ByteArray) (last : Bool) (h0 : 0 < u.size) (hb : ¬ bt u (0 : Nat) < 128) : KV u last = if (Utf8.decode u 0).2 = u.size then 5 else 0 := by
  unfold KV kindE
  rw [scanE_high u 0 h0 hb]
  simp only [Nat.zero_add]
  rw [if_neg (show ¬ (((34 : Int) = 4 ∨ (34 : Int) = 5) ∧ last = false) by omega), if_neg (show ¬ (34 : Int) = 7 by omega)]
  rfl
theorem KS_not (u : ByteArray) (last : Bool) (x : Int × Nat) (h : x.2 ≠ u.size) : KS u last x = 0 := by unfold KS; rw [if_neg h]
theorem KS_end (u : ByteArray) (last : Bool) (x : Int × Nat) (h : x.2 = u.size) (h4 : x.1 ≠ 4) (h5 : x.1 ≠ 5) (h7 : x.1 ≠ 7) : KS u last x = rd kinT x.1 := by
  unfold KS; rw [if_pos h, if_neg (by omega), if_neg h7]

/-! ### the law's own loops -/
theorem ten_f (b : Int) : glossatorlaw11_ten.f b = some (decide (b = 10 ∨ b = 13)) := by
  unfold glossatorlaw11_ten.f
  by_cases h : b = 10
  · rw [if_pos h, decide_eq_true (Or.inl h)]
  · rw [if_neg h]; congr 1; rw [Bool.eq_iff_iff]; simp [h]
def memB (x : ByteArray) (b : Int) : Prop := ∃ j : Nat, j < x.size ∧ bt x j = b
theorem alike_l1 (u x : ByteArray) (i : Nat) (hi : i < u.size) (hx : x.size ≤ 1000) (r : Bool) : ∀ d j found, x.size - j = d → j ≤ x.size →
    ((found = true ∨ ∃ j' : Nat, j ≤ j' ∧ j' < x.size ∧ bt x j' = bt u i) → Ev (fun k => glossatorlaw11_alike.l0 k u x (wrap64 ((i : Int) + 1))) r) →
    (¬ (found = true ∨ ∃ j' : Nat, j ≤ j' ∧ j' < x.size ∧ bt x j' = bt u i) → r = false) → Ev (fun k => glossatorlaw11_alike.l1 k u x i found j) r := by
  intro d
  induction d with
  | zero =>
    intro j found hd hj h1 h2
    cases found with
    | true =>
      refine Ev.step (fun k => ?_) (h1 (.inl rfl))
      simp only [glossatorlaw11_alike.l1]
      rw [if_neg (by omega), if_pos trivial]
    | false =>
      have : r = false := h2 (by rintro (h | ⟨j', h3, h4, _⟩); cases h; omega)
      subst this
      refine Ev.step (f := fun _ => some false) (fun k => ?_) (Ev.now _)
      simp only [glossatorlaw11_alike.l1]
      rw [if_neg (by omega), if_neg (by simp)]
  | succ d ih =>
    intro j found hd hj h1 h2
    have ew : wrap64 ((j : Int) + 1) = ((j + 1 : Nat) : Int) := by rw [w64 _ (by omega) (by omega)]; omega
    cases found with
    | true =>
      refine Ev.step (f := fun k => glossatorlaw11_alike.l1 k u x i true ((j + 1 : Nat) : Int)) (fun k => ?_) (ih (j + 1) true (by omega) (by omega) (fun _ => h1 (.inl rfl)) (fun h => absurd (.inl rfl) h))
      simp only [glossatorlaw11_alike.l1]
      rw [if_pos (by omega), if_pos trivial, ew]
    | false =>
      refine Ev.step (f := fun k => glossatorlaw11_alike.l1 k u x i (bt x j == bt u i) ((j + 1 : Nat) : Int)) (fun k => ?_) (ih (j + 1) _ (by omega) (by omega) (fun h => h1 ?_) (fun h => h2 ?_))
      · simp only [glossatorlaw11_alike.l1]
        rw [if_pos (by omega), if_neg (by simp), if_pos (by omega), if_pos (by omega), if_pos (by omega), ew]
      · rcases h with h | ⟨j', a, b, c⟩
        · exact .inr ⟨j, Nat.le_refl _, by omega, by simpa using h⟩
        · exact .inr ⟨j', by omega, b, c⟩
      · rintro (h3 | ⟨j', a, b, c⟩)
        · cases h3
        · by_cases e : j' = j
          · subst e; exact h (.inl (by simpa using c))
          · exact h (.inr ⟨j', by omega, b, c⟩)
theorem alike_l0 (u x : ByteArray) (hu : u.size ≤ 4611686018427387000) (hx : x.size ≤ 1000) : ∀ d i, u.size - i = d → i ≤ u.size →
    ∃ r, Ev (fun k => glossatorlaw11_alike.l0 k u x i) r ∧ (r = true ↔ ∀ i' : Nat, i ≤ i' → i' < u.size → memB x (bt u i')) := by
  intro d
  induction d with
  | zero =>
    intro i hd hi
    refine ⟨true, Ev.step (f := fun _ => some true) (fun k => ?_) (Ev.now _), by simp only [true_iff]; intro i' h1 h2; omega⟩
    simp only [glossatorlaw11_alike.l0]
    rw [if_neg (by omega)]
  | succ d ih =>
    intro i hd hi
    obtain ⟨r, hr, hiff⟩ := ih (i + 1) (by omega) (by omega)
    have ew : wrap64 ((i : Int) + 1) = ((i + 1 : Nat) : Int) := by rw [w64 _ (by omega) (by omega)]; omega
    have hst : ∀ q, Ev (fun k => glossatorlaw11_alike.l1 k u x i false ((0 : Nat) : Int)) q → Ev (fun k => glossatorlaw11_alike.l0 k u x i) q := fun q hq => Ev.step (fun k => by
      simp only [glossatorlaw11_alike.l0]
      rw [if_pos (by omega)]; rfl) hq
    by_cases hm : memB x (bt u i)
    · refine ⟨r, hst _ (alike_l1 u x i (by omega) hx r _ 0 false rfl (Nat.zero_le _) (fun _ => by rw [ew]; exact hr) (fun h => absurd ?_ h)), ?_⟩
      · obtain ⟨j, h1, h2⟩ := hm
        exact .inr ⟨j, Nat.zero_le _, h1, h2⟩
      · rw [hiff]
        constructor
        · intro h i' h1 h2
          by_cases e : i' = i
          · subst e; exact hm
          · exact h i' (by omega) h2
        · exact fun h i' h1 h2 => h i' (by omega) h2
    · refine ⟨false, hst _ (alike_l1 u x i (by omega) hx false _ 0 false rfl (Nat.zero_le _) (fun h => absurd ?_ hm) (fun _ => rfl)), ?_⟩
      · rcases h with h | ⟨j, _, h1, h2⟩
        · cases h
        · exact ⟨j, h1, h2⟩
      · simp only [Bool.false_eq_true, false_iff]
        intro h
        exact hm (h i (Nat.le_refl _) (by omega))
def blA : ByteArray := ⟨#[32, 9, 10, 13]⟩
def diA : ByteArray := ⟨#[48, 49, 50, 51, 52, 53, 54, 55, 56, 57]⟩
theorem mem_bl (u : ByteArray) (i : Nat) : memB blA (bt u i) ↔ (cls (bt u i) = 1 ∨ cls (bt u i) = 2) := by
  obtain ⟨n, hn, e⟩ := byteN u i
  rw [e, ← (bcls n hn).1]
  have h0 : bt blA (0 : Nat) = 32 := by decide +kernel
  have h1 : bt blA (1 : Nat) = 9 := by decide +kernel
  have h2 : bt blA (2 : Nat) = 10 := by decide +kernel
  have h3 : bt blA (3 : Nat) = 13 := by decide +kernel
  have hs : blA.size = 4 := rfl
  constructor
  · rintro ⟨j, hj, hb⟩
    obtain rfl | rfl | rfl | rfl : j = 0 ∨ j = 1 ∨ j = 2 ∨ j = 3 := by omega
    all_goals omega
  · rintro (h | h | h | h)
    · exact ⟨0, by omega, by omega⟩
    · exact ⟨1, by omega, by omega⟩
    · exact ⟨2, by omega, by omega⟩
    · exact ⟨3, by omega, by omega⟩
theorem di_at : ∀ j : Nat, j < 10 → bt diA j = 48 + (j : Int) := by decide +kernel
theorem mem_di (u : ByteArray) (i : Nat) : memB diA (bt u i) ↔ cls (bt u i) = 4 := by
  obtain ⟨n, hn, e⟩ := byteN u i
  rw [e, ← (bcls n hn).2.2.2.2.2.2]
  have hs : diA.size = 10 := rfl
  constructor
  · rintro ⟨j, hj, hb⟩
    have := di_at j (by omega)
    omega
  · intro h
    have := di_at (n - 48) (by omega)
    exact ⟨n - 48, by omega, by omega⟩
theorem line_l0 (u : ByteArray) (hu : u.size ≤ 4611686018427387000) : ∀ d t, u.size - t = d → t ≤ u.size → Ev (fun k => glossatorlaw11_kind.l0 k u t) (if (S u 3 t).2 = u.size then 2 else 0) := by
  intro d
  induction d with
  | zero =>
    intro t hd ht
    have e3 : S u 3 t = (3, t) := by rw [S_eq, if_neg (by omega)]
    rw [e3]
    simp only
    rw [if_pos (by omega)]
    refine Ev.step (f := fun _ => some 2) (fun k => ?_) (Ev.now _)
    simp only [glossatorlaw11_kind.l0]
    rw [if_neg (by omega)]
  | succ d ih =>
    intro t hd ht
    obtain ⟨n, hn, e⟩ := byteN u t
    obtain ⟨c, hc, ec⟩ := clsN u t
    have h10 := (bcls n hn).2.2.2.2.2.1
    rw [← e, ec] at h10
    have ew : wrap64 ((t : Int) + 1) = ((t + 1 : Nat) : Int) := by rw [w64 _ (by omega) (by omega)]; omega
    by_cases h : c = 2
    · have e3 : S u 3 t = (3, t) := by rw [S_eq, if_pos (by omega), ec, if_pos ((g3 c hc).2 (by omega))]
      rw [e3]
      simp only
      rw [if_neg (by omega)]
      refine Ev.step (f := fun _ => some 0) (fun k => ?_) (Ev.now _)
      simp only [glossatorlaw11_kind.l0]
      rw [if_pos (by omega), if_pos (by omega), ten_f, Option.bind_some, if_pos (decide_eq_true (h10.2 (by omega)))]
    · have e3 : S u 3 t = S u 3 (t + 1) := by rw [S_eq, if_pos (by omega), ec, (g3 c hc).1 h, if_neg (by omega)]
      rw [e3]
      refine Ev.step (f := fun k => glossatorlaw11_kind.l0 k u ((t + 1 : Nat) : Int)) (fun k => ?_) (ih (t + 1) (by omega) (by omega))
      simp only [glossatorlaw11_kind.l0]
      rw [if_pos (by omega), if_pos (by omega), ten_f, Option.bind_some, if_neg (by simp only [decide_eq_true_eq]; rw [h10]; omega), ew]
theorem quoted_l0 (u : ByteArray) (hu : u.size ≤ 4611686018427387000) : ∀ d t, u.size - t = d → t ≤ u.size →
    Ev (fun k => glossatorlaw11_quoted.l0 k u t) (if (S u 9 t).2 = u.size then rd kinT (S u 9 t).1 else 0) ∧ ((S u 9 t).1 = 9 ∨ (S u 9 t).1 = 10 ∨ (S u 9 t).1 = 11) := by
  intro d
  induction d using Nat.strongRecOn with
  | ind d ih =>
    intro t hd ht
    by_cases hlt : t < u.size
    · obtain ⟨n, hn, e⟩ := byteN u t
      obtain ⟨c, hc, ec⟩ := clsN u t
      obtain ⟨_, _, h5, h6, _, h2, _⟩ := bcls n hn
      rw [← e, ec] at h5 h6 h2
      have ew : wrap64 ((t : Int) + 1) = ((t + 1 : Nat) : Int) := by rw [w64 _ (by omega) (by omega)]; omega
      by_cases c2 : c = 2
      · have e9 : S u 9 t = (9, t) := by rw [S_eq, if_pos hlt, ec, if_pos ((g9 c hc).2.2.1 c2)]
        rw [e9]
        simp only
        rw [if_neg (by omega)]
        refine ⟨Ev.step (f := fun _ => some 0) (fun k => ?_) (Ev.now _), by simp⟩
        simp only [glossatorlaw11_quoted.l0]
        rw [if_pos (by omega), if_pos (by omega), ten_f, Option.bind_some, if_pos (decide_eq_true (h2.2 (by omega)))]
      · have n10 : ¬ decide (bt u t = 10 ∨ bt u t = 13) = true := by simp only [decide_eq_true_eq]; rw [h2]; omega
        by_cases c5 : c = 5
        · have e9 : S u 9 t = (11, t + 1) := by rw [S_eq, if_pos hlt, ec, (g9 c hc).1 c5, if_neg (by omega), S_dead _ _ _ dead11]
          rw [e9]
          simp only
          refine ⟨Ev.step (f := fun _ => some (if t + 1 = u.size then rd kinT 11 else 0)) (fun k => ?_) (Ev.now _), by simp⟩
          simp only [glossatorlaw11_quoted.l0]
          rw [if_pos (by omega), if_pos (by omega), ten_f, Option.bind_some, if_neg n10, if_pos (h5.2 (by omega)), ew]
          by_cases hend : t + 1 = u.size
          · rw [if_pos (by omega), if_pos hend]; rfl
          · rw [if_neg (by omega), if_neg hend]
        · have n34 : ¬ bt u t = 34 := by rw [h5]; omega
          by_cases c6 : c = 6
          · have e9 : S u 9 t = S u 10 (t + 1) := by rw [S_eq, if_pos hlt, ec, (g9 c hc).2.1 c6, if_neg (by omega)]
            have y92 : bt u t = 92 := h6.2 (by omega)
            rw [e9]
            by_cases hend : t + 1 = u.size
            · have e10 : S u 10 (t + 1) = (10, t + 1) := by rw [S_eq, if_neg (by omega)]
              rw [e10]
              simp only
              rw [if_pos hend]
              refine ⟨Ev.step (f := fun k => glossatorlaw11_quoted.j1 k u t false) (fun k => ?_) (Ev.step (f := fun k => glossatorlaw11_quoted.l0 k u ((t + 1 : Nat) : Int)) (fun k => ?_) (Ev.step (f := fun _ => some 9) (fun k => ?_) (Ev.now _))), by simp⟩
              · simp only [glossatorlaw11_quoted.l0]
                rw [if_pos (by omega), if_pos (by omega), ten_f, Option.bind_some, if_neg n10, if_neg n34, if_pos y92, ew, decide_eq_false (by omega)]
              · simp only [glossatorlaw11_quoted.j1, Bool.false_eq_true, if_false]
                rw [ew]
              · simp only [glossatorlaw11_quoted.l0]
                rw [if_neg (by omega)]
            · obtain ⟨m, hm, e2⟩ := byteN u (t + 1)
              obtain ⟨b, hb', eb⟩ := clsN u (t + 1)
              have hn2 := (bcls m hm).2.2.2.2.2.1
              rw [← e2, eb] at hn2
              have hj : ∀ r, Ev (fun k => glossatorlaw11_quoted.j1 k u t true) r → Ev (fun k => glossatorlaw11_quoted.l0 k u t) r := fun r hr => Ev.step (fun k => by
                simp only [glossatorlaw11_quoted.l0]
                rw [if_pos (by omega), if_pos (by omega), ten_f, Option.bind_some, if_neg n10, if_neg n34, if_pos y92, ew, decide_eq_true (by omega)]) hr
              by_cases b2 : b = 2
              · have e10 : S u 10 (t + 1) = (10, t + 1) := by rw [S_eq, if_pos (by omega), eb, if_pos ((g10 b hb').1 b2)]
                rw [e10]
                simp only
                rw [if_neg (by omega)]
                refine ⟨hj _ (Ev.step (f := fun _ => some 0) (fun k => ?_) (Ev.now _)), by simp⟩
                simp only [glossatorlaw11_quoted.j1, if_true]
                rw [ew, if_pos (by omega), if_pos (by omega), ten_f, Option.bind_some, if_pos (decide_eq_true (hn2.2 (by omega)))]
              · have e10 : S u 10 (t + 1) = S u 9 (t + 2) := by rw [S_eq, if_pos (by omega), eb, (g10 b hb').2 b2, if_neg (by omega)]
                have hq := ih (u.size - (t + 2)) (by omega) (t + 2) rfl (by omega)
                rw [e10]
                refine ⟨hj _ (Ev.step (f := fun k => glossatorlaw11_quoted.l0 k u ((t + 2 : Nat) : Int)) (fun k => ?_) hq.1), hq.2⟩
                simp only [glossatorlaw11_quoted.j1, if_true]
                rw [ew, if_pos (by omega), if_pos (by omega), ten_f, Option.bind_some, if_neg (by simp only [decide_eq_true_eq]; rw [hn2]; omega), w64 _ (by omega) (by omega)]
                rfl
          · have e9 : S u 9 t = S u 9 (t + 1) := by rw [S_eq, if_pos hlt, ec, (g9 c hc).2.2.2 (by omega), if_neg (by omega)]
            have hq := ih (u.size - (t + 1)) (by omega) (t + 1) rfl (by omega)
            rw [e9]
            refine ⟨Ev.step (f := fun k => glossatorlaw11_quoted.j1 k u t false) (fun k => ?_) (Ev.step (f := fun k => glossatorlaw11_quoted.l0 k u ((t + 1 : Nat) : Int)) (fun k => ?_) hq.1), hq.2⟩
            · simp only [glossatorlaw11_quoted.l0]
              rw [if_pos (by omega), if_pos (by omega), ten_f, Option.bind_some, if_neg n10, if_neg n34, if_neg (by rw [h6]; omega)]
            · simp only [glossatorlaw11_quoted.j1, Bool.false_eq_true, if_false]
              rw [ew]
    · have e9 : S u 9 t = (9, t) := by rw [S_eq, if_neg hlt]
      rw [e9]
      simp only
      rw [if_pos (by omega)]
      refine ⟨Ev.step (f := fun _ => some 9) (fun k => ?_) (Ev.now _), by simp⟩
      simp only [glossatorlaw11_quoted.l0]
      rw [if_neg (by omega)]
theorem S4_step (s : ByteArray) (t : Nat) (ht : t + 1 < s.size) : S s 4 t = if cls (bt s t) = 8 ∧ cls (bt s (t + 1 : Nat)) = 7 then (6, t + 2) else S s 4 (t + 1) := by
  obtain ⟨c, hc, ec⟩ := clsN s t
  obtain ⟨b, hb, eb⟩ := clsN s (t + 1)
  obtain ⟨_, _, c48, c4, _⟩ := g4 c hc
  obtain ⟨_, _, b48, b4, b57, b58, b5⟩ := g4 b hb
  have e5 : S s 5 (t + 1) = if b = 7 then (6, t + 2) else S s 4 (t + 1) := by
    by_cases h7 : b = 7
    · rw [if_pos h7, S_eq s 5, if_pos ht, eb, b57 h7, if_neg (by omega), S_dead _ _ _ dead6]
    · rw [if_neg h7, S_eq s 5, if_pos ht, eb, S_eq s 4 (t + 1), if_pos ht, eb]
      by_cases h8 : b = 8
      · rw [b58 h8, b48 h8, if_neg (by omega), if_neg (by omega)]
      · rw [b5 (by omega), b4 h8, if_neg (by omega), if_neg (by omega)]
  rw [S_eq s 4 t, if_pos (by omega), ec, eb]
  by_cases h : c = 8
  · rw [c48 h, if_neg (by omega), e5]
    by_cases h7 : b = 7
    · rw [if_pos h7, if_pos (by omega)]
    · rw [if_neg h7, if_neg (by omega)]
  · rw [c4 h, if_neg (by omega), if_neg (by omega)]
theorem S4_end (s : ByteArray) (t : Nat) (h1 : s.size ≤ t + 1) (h2 : t ≤ s.size) : (S s 4 t).2 = s.size ∧ ((S s 4 t).1 = 4 ∨ (S s 4 t).1 = 5) := by
  rw [S_eq]
  by_cases h : t < s.size
  · obtain ⟨c, hc, ec⟩ := clsN s t
    obtain ⟨_, _, c48, c4, _⟩ := g4 c hc
    rw [if_pos h, ec]
    by_cases h8 : c = 8
    · rw [c48 h8, if_neg (by omega), S_eq, if_neg (by omega)]
      exact ⟨by show t + 1 = s.size; omega, .inr rfl⟩
    · rw [c4 h8, if_neg (by omega), S_eq, if_neg (by omega)]
      exact ⟨by show t + 1 = s.size; omega, .inl rfl⟩
  · rw [if_neg h]
    exact ⟨by show t = s.size; omega, .inl rfl⟩
theorem remark_l0 (u : ByteArray) (last : Bool) (hu : u.size ≤ 4611686018427387000) : ∀ d t, u.size - t = d → t ≤ u.size → Ev (fun k => glossatorlaw11_remark.l0 k u last t) (KS u last (S u 4 t)) := by
  intro d
  have hend : ∀ t, u.size ≤ t + 1 → t ≤ u.size → Ev (fun k => glossatorlaw11_remark.l0 k u last t) (KS u last (S u 4 t)) := by
    intro t h1 h2
    obtain ⟨h3, h4⟩ := S4_end u t h1 h2
    have hk : KS u last (S u 4 t) = if last = true then 4 else 0 := by
      unfold KS
      rw [if_pos h3]
      cases last with
      | true =>
        rw [if_neg (by simp), if_neg (by omega), if_pos rfl]
        rcases h4 with h4 | h4 <;> rw [h4] <;> rfl
      | false => rw [if_pos ⟨h4, rfl⟩]; rfl
    rw [hk]
    refine Ev.step (f := fun _ => some (if last = true then 4 else 0)) (fun k => ?_) (Ev.now _)
    simp only [glossatorlaw11_remark.l0]
    rw [w64 _ (by omega) (by omega), if_neg (by omega)]
    split <;> rfl
  induction d with
  | zero => intro t hd ht; exact hend t (by omega) ht
  | succ d ih =>
    intro t hd ht
    by_cases hlt : t + 1 < u.size
    · have h2 := ih (t + 1) (by omega) (by omega)
      obtain ⟨n, hn, e⟩ := byteN u t
      obtain ⟨m, hm, e2⟩ := byteN u (t + 1)
      have hb := (bcls n hn).2.2.2.2.1
      have hb2 := (bcls m hm).2.1
      rw [← e] at hb
      rw [← e2] at hb2
      have ew : wrap64 ((t : Int) + 1) = ((t + 1 : Nat) : Int) := by rw [w64 _ (by omega) (by omega)]; omega
      have ew2 : wrap64 ((t : Int) + 2) = ((t + 2 : Nat) : Int) := by rw [w64 _ (by omega) (by omega)]; omega
      rw [S4_step u t hlt]
      by_cases h8 : bt u t = 42
      · by_cases h7 : bt u (t + 1 : Nat) = 47
        · rw [if_pos ⟨hb.1 h8, hb2.1 h7⟩]
          refine Ev.step (f := fun k => glossatorlaw11_remark.j1 k u last t true) (fun k => ?_) (Ev.step (f := fun _ => some (KS u last (6, t + 2))) (fun k => ?_) (Ev.now _))
          · simp only [glossatorlaw11_remark.l0]
            rw [ew, if_pos (by omega), if_pos (by omega), if_pos (by omega), if_pos h8, if_pos (by omega), h7]; rfl
          · simp only [glossatorlaw11_remark.j1, if_true]
            rw [ew2]
            by_cases he : t + 2 = u.size
            · rw [if_pos (by omega), KS_end u last _ he (by simp) (by simp) (by simp)]; rfl
            · rw [if_neg (by omega), KS_not u last _ he]
        · rw [if_neg (fun h => h7 (hb2.2 h.2))]
          refine Ev.step (f := fun k => glossatorlaw11_remark.j1 k u last t false) (fun k => ?_) (Ev.step (f := fun k => glossatorlaw11_remark.l0 k u last ((t + 1 : Nat) : Int)) (fun k => ?_) h2)
          · simp only [glossatorlaw11_remark.l0]
            rw [ew, if_pos (by omega), if_pos (by omega), if_pos (by omega), if_pos h8, if_pos (by omega), beq_eq_false_iff_ne.2 h7]
          · simp only [glossatorlaw11_remark.j1, Bool.false_eq_true, if_false]
            rw [ew]
      · rw [if_neg (fun h => h8 (hb.2 h.1))]
        refine Ev.step (f := fun k => glossatorlaw11_remark.j1 k u last t false) (fun k => ?_) (Ev.step (f := fun k => glossatorlaw11_remark.l0 k u last ((t + 1 : Nat) : Int)) (fun k => ?_) h2)
        · simp only [glossatorlaw11_remark.l0]
          rw [ew, if_pos (by omega), if_pos (by omega), if_pos (by omega), if_neg h8]
        · simp only [glossatorlaw11_remark.j1, Bool.false_eq_true, if_false]
          rw [ew]
    · exact hend t (by omega) ht
end Go.Proofs.YtdnkjfcndjmdbaaDoor.K
