/- Plain: what one token is, and on which bytes it hangs. -/
import Derived.Test.YtdnkjfcndjmdbaaDoorPn
namespace Go.Proofs.YtdnkjfcndjmdbaaDoor.P
open Go.RowKit Go.Proofs.YtdnkjfcndjmdbaaDoorW.PrintWords G

theorem S_le (s : ByteArray) : ∀ d st t, s.size - t = d → 1 ≤ st → st < 35 → t ≤ s.size → 1 ≤ (S s st t).1 ∧ (S s st t).1 < 35 ∧ t ≤ (S s st t).2 ∧ (S s st t).2 ≤ s.size := by
  intro d
  induction d with
  | zero =>
    intro st t hd h0 h1 ht
    rw [S_eq, if_neg (by omega)]; exact ⟨h0, h1, Nat.le_refl _, ht⟩
  | succ d ih =>
    intro st t hd h0 h1 ht
    rw [S_eq, if_pos (by omega)]
    have hc := cls_range (bt s t)
    have hg := goes_ok st (cls (bt s t)) (by omega) h1 hc
    split
    · exact ⟨h0, h1, Nat.le_refl _, ht⟩
    · have := ih (goesF st (cls (bt s t))) (t + 1) (by omega) (hg.1 (by omega)) hg.2 (by omega)
      exact ⟨this.1, this.2.1, by omega, this.2.2.2⟩
/-- The first state and where a token ends. -/
theorem end_facts (s : ByteArray) (t : Nat) (ht : t < s.size) : 1 ≤ (scanE s t).1 ∧ (scanE s t).1 < 35 ∧ t < (scanE s t).2.1 ∧ (scanE s t).2.1 ≤ s.size := by
  by_cases hb : bt s t < 128
  · rw [scanE_low s t ht hb]
    have hc := cls_range (bt s t)
    obtain ⟨c, hcc⟩ := Int.eq_ofNat_of_zero_le hc.1
    have hg := goes_start c (by omega)
    rw [hcc]
    have := S_le s _ (goesF 0 c) (t + 1) rfl hg.1 hg.2 (by omega)
    exact ⟨this.1, this.2.1, by simp only; omega, this.2.2.2⟩
  · rw [scanE_high s t ht hb]
    have h1 := dec_pos s t
    have h2 := dec_le s t ht
    exact ⟨by simp only; omega, by simp only; omega, by simp only; omega, h2⟩

theorem goes7 : ∀ c : Nat, c < 24 → (c = 3 ∨ c = 4 → goesF 7 c = 7) ∧ (¬ (c = 3 ∨ c = 4) → goesF 7 c < 0) := by decide +kernel
theorem not7 : ∀ st : Nat, st < 35 → 1 ≤ st → st ≠ 7 → ∀ c : Nat, c < 24 → goesF (st : Int) c ≠ 7 := by decide +kernel
theorem to7 : ∀ c : Nat, c < 24 → goesF 0 c = 7 → c = 3 := by decide +kernel
theorem S_not7 (s : ByteArray) : ∀ d st t, s.size - t = d → 1 ≤ st → st < 35 → t ≤ s.size → st ≠ 7 → (S s st t).1 ≠ 7 := by
  intro d
  induction d with
  | zero =>
    intro st t hd h0 h1 ht h7
    rw [S_eq, if_neg (by omega)]; exact h7
  | succ d ih =>
    intro st t hd h0 h1 ht h7
    rw [S_eq, if_pos (by omega)]
    have hc := cls_range (bt s t)
    have hg := goes_ok st (cls (bt s t)) (by omega) h1 hc
    split
    · exact h7
    · refine ih _ (t + 1) (by omega) (hg.1 (by omega)) hg.2 (by omega) ?_
      obtain ⟨a, rfl⟩ := Int.eq_ofNat_of_zero_le (show 0 ≤ st by omega)
      obtain ⟨c, hcc⟩ := Int.eq_ofNat_of_zero_le hc.1
      rw [hcc]
      exact not7 a (by omega) (by omega) (by omega) c (by omega)
theorem S_7 (s : ByteArray) : ∀ d t, s.size - t = d → t ≤ s.size → (S s 7 t).1 = 7 ∧ ∀ j, t ≤ j → j < (S s 7 t).2 → cls (bt s j) = 3 ∨ cls (bt s j) = 4 := by
  intro d
  induction d with
  | zero =>
    intro t hd ht
    rw [S_eq, if_neg (by omega)]; exact ⟨rfl, fun j h1 h2 => by simp only at h2; omega⟩
  | succ d ih =>
    intro t hd ht
    rw [S_eq, if_pos (by omega)]
    have hc := cls_range (bt s t)
    obtain ⟨c, hcc⟩ := Int.eq_ofNat_of_zero_le hc.1
    have hg := goes7 c (by omega)
    rw [hcc]
    by_cases h34 : c = 3 ∨ c = 4
    · rw [hg.1 h34, if_neg (by omega)]
      have := ih (t + 1) (by omega) (by omega)
      refine ⟨this.1, fun j h1 h2 => ?_⟩
      by_cases e : j = t
      · subst e; omega
      · exact this.2 j (by omega) h2
    · rw [if_pos (hg.2 h34)]; exact ⟨rfl, fun j h1 h2 => by simp only at h2; omega⟩
theorem bt_ext (s : ByteArray) (a b i : Nat) (h : a + i < b) (hb : b ≤ s.size) : bt (s.extract a b) i = bt s (a + i : Nat) := by
  rw [bt_list _ _ (by simp; omega), bt_list _ _ (by omega)]
  congr 2
  have : (s.extract a b).data.toList = (s.data.toList.drop a).take (b - a) := Lib.extract_data s a b
  simp only [this, List.getElem_take, List.getElem_drop]
/-- A word's token: its bytes are those of a word. -/
theorem word_token (s : ByteArray) (t : Nat) (ht : t < s.size) (h7 : (scanE s t).1 = 7) :
    ∀ i, i < (scanE s t).2.1 - t → okAt (s.extract t (scanE s t).2.1) i = true := by
  have he := end_facts s t ht
  by_cases hb : bt s t < 128
  · have hE := scanE_low s t ht hb
    have hc := cls_range (bt s t)
    obtain ⟨c, hcc⟩ := Int.eq_ofNat_of_zero_le hc.1
    have hg := goes_start c (by omega)
    rw [hcc] at hE
    have hg7 : goesF 0 c = 7 := by
      by_cases e : goesF 0 c = 7
      · exact e
      · exact absurd (by rw [hE] at h7; exact h7) (S_not7 s _ (goesF 0 c) (t + 1) rfl hg.1 hg.2 (by omega) e)
    have h3 := to7 c (by omega) hg7
    intro i hi
    rw [hg7] at hE
    have hS := (S_7 s _ (t + 1) rfl (by omega)).2
    have hu : (S s 7 (t + 1)).2 = (scanE s t).2.1 := by rw [hE]
    unfold okAt
    rw [bt_ext s t _ i (by omega) he.2.2.2]
    apply decide_eq_true
    by_cases e : i = 0
    · subst e
      left; rw [Nat.add_zero, hcc, h3]; rfl
    · rcases hS (t + i) (by omega) (by omega) with h | h
      · exact .inl h
      · exact .inr ⟨h, e⟩
  · rw [scanE_high s t ht hb] at h7
    simp at h7
theorem kin_pos : ∀ st : Nat, st < 35 → 1 ≤ st → 1 ≤ rd kinT (st : Int) := by decide +kernel
theorem kind_pos (s : ByteArray) (t : Nat) (ht : t < s.size) : 1 ≤ kindE s t := by
  have he := end_facts s t ht
  unfold kindE
  by_cases h7 : (scanE s t).1 = 7
  · rw [if_pos h7]
    have hw := word_token s t ht h7
    unfold wordF
    have hsz : (s.extract t (scanE s t).2.1).size = (scanE s t).2.1 - t := by simp; omega
    rw [if_pos (fun i hi => hw i (by omega)), if_neg (by omega)]
    split <;> omega
  · rw [if_neg h7]
    obtain ⟨a, ha⟩ := Int.eq_ofNat_of_zero_le (show 0 ≤ (scanE s t).1 by omega)
    rw [ha]
    exact kin_pos a (by omega) (by omega)
theorem look_range (s : ByteArray) (t : Nat) (ht : t < s.size) : 0 ≤ lookE s t ∧ lookE s t ≤ 3 ∧ ((scanE s t).2.1 : Int) + lookE s t ≤ s.size + 1 := by
  have he := end_facts s t ht
  unfold lookE
  split
  · omega
  · split <;> omega

/-! ### on which bytes a token hangs -/
theorem dead_goes (st : Int) (h : looksB st = false) (c : Int) (hc : 0 ≤ c ∧ c < 24) : goesF st c < 0 := by
  have h1 := of_decide_eq_false h
  obtain ⟨n, rfl⟩ := Int.eq_ofNat_of_zero_le hc.1
  by_cases h2 : goesF st n < 0
  · exact h2
  · exact absurd ⟨n, by omega, by omega⟩ h1
theorem S_dead (s : ByteArray) (st : Int) (t : Nat) (h : looksB st = false) : S s st t = (st, t) := by
  rw [S_eq]
  split
  · rw [if_pos (dead_goes st h _ (cls_range _))]
  · rfl
theorem S_local (s s2 : ByteArray) : ∀ d st t t2 m, s.size - t = d → 1 ≤ st → st < 35 → t ≤ s.size → m ≤ s.size →
    (∀ j, t + j < m → t2 + j < s2.size ∧ bt s2 (t2 + j : Nat) = bt s (t + j : Nat)) → (S s st t).2 + (if looksB (S s st t).1 = true then 1 else 0) ≤ m →
    S s2 st t2 = ((S s st t).1, t2 + ((S s st t).2 - t)) := by
  intro d
  induction d with
  | zero =>
    intro st t t2 m hd h0 h1 ht hm hag hle
    rw [S_eq s, if_neg (by omega)] at hle ⊢
    simp only at hle ⊢
    cases hl : looksB st with
    | true => rw [hl] at hle; simp at hle; omega
    | false => rw [S_dead s2 st t2 hl]; simp
  | succ d ih =>
    intro st t t2 m hd h0 h1 ht hm hag hle
    rw [S_eq s, if_pos (show t < s.size by omega)] at hle ⊢
    have hc := cls_range (bt s t)
    have hg := goes_ok st (cls (bt s t)) (by omega) h1 hc
    by_cases hneg : goesF st (cls (bt s t)) < 0
    · rw [if_pos hneg] at hle ⊢
      simp only at hle ⊢
      cases hl : looksB st with
      | true =>
        rw [hl] at hle; simp at hle
        have h2 := hag 0 (by omega)
        rw [S_eq, if_pos (by omega), show bt s2 t2 = bt s t from h2.2, if_pos hneg]; simp
      | false => rw [S_dead s2 st t2 hl]; simp
    · rw [if_neg hneg] at hle ⊢
      have hm2 := S_le s d (goesF st (cls (bt s t))) (t + 1) (by omega) (hg.1 (by omega)) hg.2 (by omega)
      have h2 := hag 0 (by split at hle <;> omega)
      rw [S_eq s2, if_pos (by omega), show bt s2 t2 = bt s t from h2.2, if_neg hneg]
      rw [ih (goesF st (cls (bt s t))) (t + 1) (t2 + 1) m (by omega) (hg.1 (by omega)) hg.2 (by omega) hm (fun j hj => by
        have := hag (j + 1) (by omega)
        rw [show t2 + (j + 1) = t2 + 1 + j by omega, show t + (j + 1) = t + 1 + j by omega] at this
        exact this) hle]
      congr 1; omega
theorem ext_eq (s s2 : ByteArray) (t t2 n : Nat) (h1 : t + n ≤ s.size) (h2 : t2 + n ≤ s2.size) (h : ∀ j, j < n → bt s2 (t2 + j : Nat) = bt s (t + j : Nat)) : s2.extract t2 (t2 + n) = s.extract t (t + n) := by
  have hd : (s2.extract t2 (t2 + n)).data.toList = (s.extract t (t + n)).data.toList := by
    rw [Lib.extract_data, Lib.extract_data]
    apply List.ext_getElem
    · simp; omega
    · intro j h3 h4
      have hj : j < n := by simp at h3; omega
      have e := h j hj
      rw [bt_list s2 _ (by omega), bt_list s _ (by omega)] at e
      simp only [List.getElem_take, List.getElem_drop]
      exact UInt8.toNat_inj.1 (by omega)
  have : (s2.extract t2 (t2 + n)).data = (s.extract t (t + n)).data := by
    rw [← Array.toArray_toList (xs := (s2.extract t2 (t2 + n)).data), hd]
  cases hx : s2.extract t2 (t2 + n); cases hy : s.extract t (t + n)
  rw [hx, hy] at this
  simp only at this
  rw [this]
theorem dec_same (s s2 : ByteArray) (t t2 : Nat) (h : nextI s2 t2 = nextI s t) : Utf8.decode s2 t2 = Utf8.decode s t := by
  have h1 := (dec_I s t).1
  have h2 := (dec_I s2 t2).1
  rw [h] at h2
  have h3 := h2.trans h1.symm
  simp only [Prod.mk.injEq] at h3
  exact Prod.ext (by omega) (by omega)
theorem decI_some (m m2 b0 b1 b2 b3 c1 c2 c3 : Int) (r n : Int) (h : decI m b0 b1 b2 b3 = some (r, n)) (hm : n ≤ m2) (h1 : 1 < n → c1 = b1) (h2 : 2 < n → c2 = b2) (h3 : 3 < n → c3 = b3) : decI m2 b0 c1 c2 c3 = some (r, n) := by
  unfold decI at h ⊢
  by_cases a0 : b0 < 128
  · rw [if_pos a0] at h ⊢; exact h
  rw [if_neg a0] at h ⊢
  by_cases a1 : 192 ≤ b0 ∧ b0 < 224
  · rw [if_pos a1] at h ⊢
    split at h
    · rename_i hh
      simp only [Option.some.injEq, Prod.mk.injEq] at h
      obtain ⟨rfl, rfl⟩ := h
      rw [h1 (by omega), if_pos ⟨by omega, hh.2⟩]
    · cases h
  rw [if_neg a1] at h ⊢
  by_cases a2 : 224 ≤ b0 ∧ b0 < 240
  · rw [if_pos a2] at h ⊢
    split at h
    · rename_i hh
      simp only [Option.some.injEq, Prod.mk.injEq] at h
      obtain ⟨rfl, rfl⟩ := h
      rw [h1 (by omega), h2 (by omega), if_pos ⟨by omega, hh.2⟩]
    · cases h
  rw [if_neg a2] at h ⊢
  by_cases a3 : 240 ≤ b0 ∧ b0 < 248
  · rw [if_pos a3] at h ⊢
    split at h
    · rename_i hh
      simp only [Option.some.injEq, Prod.mk.injEq] at h
      obtain ⟨rfl, rfl⟩ := h
      rw [h1 (by omega), h2 (by omega), h3 (by omega), if_pos ⟨by omega, hh.2⟩]
    · cases h
  · rw [if_neg a3] at h; cases h
theorem decI_far (m m2 b0 b1 b2 b3 : Int) (h : 4 ≤ m) (h2 : 4 ≤ m2) : decI m2 b0 b1 b2 b3 = decI m b0 b1 b2 b3 := by
  unfold decI
  simp only [show (1 < m2) = (1 < m) from propext ⟨fun _ => by omega, fun _ => by omega⟩, show (2 < m2) = (2 < m) from propext ⟨fun _ => by omega, fun _ => by omega⟩, show (3 < m2) = (3 < m) from propext ⟨fun _ => by omega, fun _ => by omega⟩]

/-- THE TOKEN HANGS ON ITS BYTES AND THOSE THAT WERE LOOKED AT. -/
theorem tok_local (s s2 : ByteArray) (t t2 : Nat) (ht : t < s.size) (hm : ((scanE s t).2.1 : Int) + lookE s t ≤ s.size)
    (hag : ∀ j : Nat, ((t + j : Nat) : Int) < (scanE s t).2.1 + lookE s t → t2 + j < s2.size ∧ bt s2 (t2 + j : Nat) = bt s (t + j : Nat)) :
    t2 < s2.size ∧ kindE s2 t2 = kindE s t ∧ (scanE s2 t2).2.1 + t = (scanE s t).2.1 + t2 ∧ lookE s2 t2 = lookE s t := by
  have he := end_facts s t ht
  have hl := look_range s t ht
  have hb2 := hag 0 (by omega)
  have ht2 : t2 < s2.size := hb2.1
  have hbb : bt s2 t2 = bt s t := hb2.2
  refine ⟨ht2, ?_⟩
  by_cases hb : bt s t < 128
  · have hE := scanE_low s t ht hb
    have hE2 := scanE_low s2 t2 ht2 (by omega)
    have hc := cls_range (bt s t)
    obtain ⟨c, hcc⟩ := Int.eq_ofNat_of_zero_le hc.1
    have hg := goes_start c (by omega)
    rw [hbb, hcc] at hE2
    rw [hcc] at hE
    have hlook : lookE s t = if looksB (S s (goesF 0 c) (t + 1)).1 = true then 1 else 0 := by unfold lookE; rw [hE]; simp
    have hu : (scanE s t).2.1 = (S s (goesF 0 c) (t + 1)).2 := by rw [hE]
    have hloc := S_local s s2 _ (goesF 0 c) (t + 1) (t2 + 1) ((scanE s t).2.1 + (lookE s t).toNat) rfl hg.1 hg.2 (by omega) (by omega)
      (fun j hj => by
        have := hag (j + 1) (by omega)
        rw [show t2 + (j + 1) = t2 + 1 + j by omega, show t + (j + 1) = t + 1 + j by omega] at this
        exact this)
      (by rw [← hu, hlook]; split <;> simp)
    have hle := S_le s _ (goesF 0 c) (t + 1) rfl hg.1 hg.2 (by omega)
    rw [hloc] at hE2
    have hst : (scanE s2 t2).1 = (scanE s t).1 := by rw [hE2, hE]
    have hen : (scanE s2 t2).2.1 = t2 + ((scanE s t).2.1 - t) := by rw [hE2, hu]; simp only; omega
    refine ⟨?_, by omega, ?_⟩
    · unfold kindE
      rw [hst, hen]
      have : s2.extract t2 (t2 + ((scanE s t).2.1 - t)) = s.extract t (scanE s t).2.1 := by
        have h := ext_eq s s2 t t2 ((scanE s t).2.1 - t) (by omega) (by
            have := hag ((scanE s t).2.1 - t - 1) (by omega)
            omega) (fun j hj => (hag j (by omega)).2)
        rw [h]; congr 1; omega
      rw [this]
    · rw [hlook]
      unfold lookE
      rw [hE2]
      simp
  · have hE := scanE_high s t ht hb
    have hE2 := scanE_high s2 t2 ht2 (by omega)
    have h34 : looksB 34 = false := by decide +kernel
    have hdec : Utf8.decode s2 t2 = Utf8.decode s t ∧ (((Utf8.decode s t).1 = 65533 ∧ (Utf8.decode s t).2 = 1) → t2 + 3 < s2.size ∧ lookE s t = 3) := by
      cases hn : nextI s t with
      | none =>
        have e1 := (dec_I s t).2.1 hn
        have hlk : lookE s t = min 3 ((s.size : Int) - (t + 1) + 1) := by
          unfold lookE
          rw [hE]
          simp only [h34, Bool.false_eq_true, if_false]
          rw [if_pos (decide_eq_true e1), e1.2]; rfl
        have hu : (scanE s t).2.1 = t + 1 := by rw [hE, e1.2]
        have h3 : lookE s t = 3 := by omega
        have a1 := hag 1 (by omega)
        have a2 := hag 2 (by omega)
        have a3 := hag 3 (by omega)
        refine ⟨dec_same s s2 t t2 ?_, fun _ => ⟨a3.1, h3⟩⟩
        unfold nextI
        rw [hbb, a1.2, a2.2, a3.2]
        exact decI_far _ _ _ _ _ _ (by omega) (by omega)
      | some x =>
        obtain ⟨r, n⟩ := x
        have e := (dec_I s t).1
        rw [hn] at e
        simp only [Option.getD_some, Prod.mk.injEq] at e
        have hne : ¬ ((Utf8.decode s t).1 = 65533 ∧ (Utf8.decode s t).2 = 1) := fun h => by have := (dec_I s t).2.2 h; rw [hn] at this; cases this
        refine ⟨dec_same s s2 t t2 ?_, fun h => absurd h hne⟩
        have hu : (scanE s t).2.1 = t + (Utf8.decode s t).2 := by rw [hE]
        rw [hn]
        unfold nextI at hn ⊢
        rw [hbb]
        have hend := hag ((Utf8.decode s t).2 - 1) (by have := dec_pos s t; omega)
        have hp := dec_pos s t
        exact decI_some _ _ _ _ _ _ _ _ _ r n hn (by omega) (fun h => (hag 1 (by omega)).2) (fun h => (hag 2 (by omega)).2) (fun h => (hag 3 (by omega)).2)
    rw [hdec.1] at hE2
    refine ⟨by unfold kindE; rw [hE2, hE]; rfl, by rw [hE2, hE]; simp only; omega, ?_⟩
    by_cases hw : (Utf8.decode s t).1 = 65533 ∧ (Utf8.decode s t).2 = 1
    · obtain ⟨h5, h6⟩ := hdec.2 hw
      rw [h6]
      unfold lookE
      rw [hE2]
      simp only [h34, Bool.false_eq_true, if_false]
      rw [if_pos (decide_eq_true hw), hw.2]; omega
    · unfold lookE
      rw [hE2, hE]
      simp only [h34, Bool.false_eq_true, if_false]
      rw [decide_eq_false hw]; simp

/-! ### the rest of a string -/
theorem bt_rest (s : ByteArray) (a i : Nat) : bt (s.extract a s.size) i = bt s (a + i : Nat) := by
  by_cases h : a + i < s.size
  · exact bt_ext s a s.size i h (Nat.le_refl _)
  · unfold bt
    rw [dif_neg (by simp; omega), dif_neg (by simp; omega)]
theorem size_rest (s : ByteArray) (a : Nat) : (s.extract a s.size).size = s.size - a := by simp
theorem S_rest (s : ByteArray) (a : Nat) (ha : a ≤ s.size) : ∀ d st t, s.size - (a + t) = d → S (s.extract a s.size) st t = ((S s st (a + t)).1, (S s st (a + t)).2 - a) := by
  intro d
  induction d with
  | zero =>
    intro st t hd
    rw [S_eq, S_eq s, if_neg (show ¬ t < (s.extract a s.size).size by rw [size_rest]; omega), if_neg (show ¬ a + t < s.size by omega)]
    simp
  | succ d ih =>
    intro st t hd
    rw [S_eq, S_eq s, if_pos (show t < (s.extract a s.size).size by rw [size_rest]; omega), if_pos (show a + t < s.size by omega), bt_rest]
    split
    · simp
    · rw [ih _ (t + 1) (by omega)]; rfl
theorem dec_rest (s : ByteArray) (a t : Nat) : Utf8.decode (s.extract a s.size) t = Utf8.decode s (a + t) := by
  apply dec_same
  unfold nextI
  rw [bt_rest, bt_rest, bt_rest, bt_rest, size_rest, Nat.sub_sub]
  rfl
theorem tok_rest (s : ByteArray) (a t : Nat) (ha : a ≤ s.size) (ht : a + t < s.size) :
    kindE (s.extract a s.size) t = kindE s (a + t) ∧ (scanE (s.extract a s.size) t).2.1 + a = (scanE s (a + t)).2.1 ∧ lookE (s.extract a s.size) t = lookE s (a + t) := by
  have he := end_facts s (a + t) ht
  have hall : (scanE (s.extract a s.size) t).1 = (scanE s (a + t)).1 ∧ (scanE (s.extract a s.size) t).2.1 + a = (scanE s (a + t)).2.1 ∧ (scanE (s.extract a s.size) t).2.2 = (scanE s (a + t)).2.2 := by
    by_cases hb : bt s (a + t : Nat) < 128
    · have hc := cls_range (bt s (a + t : Nat))
      obtain ⟨c, hcc⟩ := Int.eq_ofNat_of_zero_le hc.1
      have hg := goes_start c (by omega)
      have hle := S_le s _ (goesF 0 c) (a + t + 1) rfl hg.1 hg.2 (by omega)
      rw [scanE_low s (a + t) ht hb, scanE_low (s.extract a s.size) t (by rw [size_rest]; omega) (by rw [bt_rest]; exact hb), bt_rest, hcc, S_rest s a ha _ _ _ rfl]
      rw [show a + (t + 1) = a + t + 1 by omega]
      refine ⟨rfl, ?_, rfl⟩
      simp only; omega
    · rw [scanE_high s (a + t) ht hb, scanE_high (s.extract a s.size) t (by rw [size_rest]; omega) (by rw [bt_rest]; exact hb), dec_rest]
      refine ⟨rfl, ?_, rfl⟩
      simp only; omega
  have hx : (s.extract a s.size).extract t (scanE (s.extract a s.size) t).2.1 = s.extract (a + t) (scanE s (a + t)).2.1 := by
    have h := ext_eq s (s.extract a s.size) (a + t) t ((scanE s (a + t)).2.1 - (a + t)) (by omega) (by rw [size_rest]; omega) (fun j hj => by rw [bt_rest]; congr 2; omega)
    rw [show t + ((scanE s (a + t)).2.1 - (a + t)) = (scanE (s.extract a s.size) t).2.1 by omega, show a + t + ((scanE s (a + t)).2.1 - (a + t)) = (scanE s (a + t)).2.1 by omega] at h
    exact h
  refine ⟨by unfold kindE; rw [hall.1, hx], hall.2.1, ?_⟩
  unfold lookE
  rw [hall.1, hall.2.2, size_rest]
  split
  · rfl
  · split
    · congr 1; omega
    · rfl
end Go.Proofs.YtdnkjfcndjmdbaaDoor.P
