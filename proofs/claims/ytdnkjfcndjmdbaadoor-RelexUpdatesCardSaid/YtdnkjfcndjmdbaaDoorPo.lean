/- Plain: what the document's 'one' says of a token is what the machine says: blanks, numbers, slashes. Plain: what the document's 'one' says of a token is what the machine says: words, quoted texts. Plain: what the document's 'one' says of a token is what the machine says: signs; and so all. Plain: what the document's 'one' says of a token is what the machine says: put together. -/
import Derived.Test.YtdnkjfcndjmdbaaDoorPl
import Derived.Test.YtdnkjfcndjmdbaaDoorPq
import Derived.Test.YtdnkjfcndjmdbaaDoorQx11
namespace Go.Proofs.YtdnkjfcndjmdbaaDoor.P
open Go.RowKit Go.Proofs.YtdnkjfcndjmdbaaDoorW.PrintWords Q G

theorem bytes_in : ∀ n : Nat, n < 256 → glossatorref12_blank.f (n : Int) = some (decide (cls n = 1 ∨ cls n = 2)) ∧ glossatorref12_letter.f (n : Int) = some (decide (cls n = 3)) ∧ glossatorref12_digit.f (n : Int) = some (decide (cls n = 4)) ∧
    (((n : Int) = 47) = (cls n = 7)) ∧ (((n : Int) = 34) = (cls n = 5)) ∧ (((n : Int) = 92) = (cls n = 6)) ∧ (((n : Int) = 42) = (cls n = 8)) ∧ (((n : Int) = 10 ∨ (n : Int) = 13) = (cls n = 2)) := by
  intro n hn
  have h : ∀ n : Nat, n < 256 → glossatorref12_blank.f (n : Int) = some (decide (cls n = 1 ∨ cls n = 2)) ∧ glossatorref12_letter.f (n : Int) = some (decide (cls n = 3)) ∧ glossatorref12_digit.f (n : Int) = some (decide (cls n = 4)) ∧
    (((n : Int) = 47) ↔ (cls n = 7)) ∧ (((n : Int) = 34) ↔ (cls n = 5)) ∧ (((n : Int) = 92) ↔ (cls n = 6)) ∧ (((n : Int) = 42) ↔ (cls n = 8)) ∧ (((n : Int) = 10 ∨ (n : Int) = 13) ↔ (cls n = 2)) := by decide +kernel
  obtain ⟨h1, h2, h3, h4, h5, h6, h7, h8⟩ := h n hn
  exact ⟨h1, h2, h3, propext h4, propext h5, propext h6, propext h7, propext h8⟩
theorem byte_nat (s : ByteArray) (t : Nat) : ∃ n : Nat, n < 256 ∧ bt s t = (n : Int) := by
  have := bt_range s t
  obtain ⟨n, hn⟩ := Int.eq_ofNat_of_zero_le (show 0 ≤ bt s t by omega)
  exact ⟨n, by omega, hn⟩

/-! ### blanks, numbers -/
theorem goes1 : ∀ c : Nat, c < 24 → (c = 1 ∨ c = 2 → goesF 1 c = 1) ∧ (¬ (c = 1 ∨ c = 2) → goesF 1 c < 0) := by decide +kernel
theorem goes8 : ∀ c : Nat, c < 24 → (c = 4 → goesF 8 c = 8) ∧ (¬ c = 4 → goesF 8 c < 0) := by decide +kernel
theorem cls_nat (s : ByteArray) (t : Nat) : ∃ c : Nat, c < 24 ∧ cls (bt s t) = (c : Int) := by
  have h := cls_range (bt s t)
  obtain ⟨c, hc⟩ := Int.eq_ofNat_of_zero_le h.1
  exact ⟨c, by omega, hc⟩
theorem blank_l0 (s : ByteArray) (hs : s.size ≤ 4611686018427387000) : ∀ d t, s.size - t = d → t ≤ s.size → Ev (fun k => glossatorref12_one.l0 k s t) (1, ((S s 1 t).2 : Int)) ∧ (S s 1 t).1 = 1 := by
  intro d
  induction d with
  | zero =>
    intro t hd ht
    rw [S_eq, if_neg (by omega)]
    exact ⟨Ev.step (f := fun _ => some (1, (t : Int))) (fun k => by simp only [glossatorref12_one.l0]; rw [if_neg (by omega)]) (Ev.now _), rfl⟩
  | succ d ih =>
    intro t hd ht
    obtain ⟨n, hn, e⟩ := byte_nat s t
    obtain ⟨c, hc, ec⟩ := cls_nat s t
    have hb := (bytes_in n hn).1
    rw [← e, ec] at hb
    rw [S_eq, if_pos (by omega), ec]
    by_cases h : c = 1 ∨ c = 2
    · rw [(goes1 c hc).1 h, if_neg (by omega)]
      have h2 := ih (t + 1) (by omega) (by omega)
      refine ⟨Ev.step (f := fun k => glossatorref12_one.l0 k s ((t + 1 : Nat) : Int)) (fun k => ?_) h2.1, h2.2⟩
      simp only [glossatorref12_one.l0]
      rw [if_pos (by omega), if_pos (by omega), hb, Option.bind_some, if_pos (decide_eq_true (by omega)), w64 _ (by omega) (by omega)]; rfl
    · rw [if_pos ((goes1 c hc).2 h)]
      refine ⟨Ev.step (f := fun _ => some (1, (t : Int))) (fun k => ?_) (Ev.now _), rfl⟩
      simp only [glossatorref12_one.l0]
      rw [if_pos (by omega), if_pos (by omega), hb, Option.bind_some, if_neg (by simp; omega)]
theorem digit_l2 (s : ByteArray) (hs : s.size ≤ 4611686018427387000) : ∀ d t, s.size - t = d → t ≤ s.size → Ev (fun k => glossatorref12_one.l2 k s t) (7, ((S s 8 t).2 : Int)) ∧ (S s 8 t).1 = 8 := by
  intro d
  induction d with
  | zero =>
    intro t hd ht
    rw [S_eq, if_neg (by omega)]
    exact ⟨Ev.step (f := fun _ => some (7, (t : Int))) (fun k => by simp only [glossatorref12_one.l2]; rw [if_neg (by omega)]) (Ev.now _), rfl⟩
  | succ d ih =>
    intro t hd ht
    obtain ⟨n, hn, e⟩ := byte_nat s t
    obtain ⟨c, hc, ec⟩ := cls_nat s t
    have hb := (bytes_in n hn).2.2.1
    rw [← e, ec] at hb
    rw [S_eq, if_pos (by omega), ec]
    by_cases h : c = 4
    · rw [(goes8 c hc).1 h, if_neg (by omega)]
      have h2 := ih (t + 1) (by omega) (by omega)
      refine ⟨Ev.step (f := fun k => glossatorref12_one.l2 k s ((t + 1 : Nat) : Int)) (fun k => ?_) h2.1, h2.2⟩
      simp only [glossatorref12_one.l2]
      rw [if_pos (by omega), if_pos (by omega), hb, Option.bind_some, if_pos (decide_eq_true (by omega)), w64 _ (by omega) (by omega)]; rfl
    · rw [if_pos ((goes8 c hc).2 h)]
      refine ⟨Ev.step (f := fun _ => some (7, (t : Int))) (fun k => ?_) (Ev.now _), rfl⟩
      simp only [glossatorref12_one.l2]
      rw [if_pos (by omega), if_pos (by omega), hb, Option.bind_some, if_neg (by simp; omega)]

/-! ### slashes -/
theorem goes3 : ∀ c : Nat, c < 24 → (c = 2 → goesF 3 c < 0) ∧ (¬ c = 2 → goesF 3 c = 3) := by decide +kernel
theorem goes4 : ∀ c : Nat, c < 24 → (c = 8 → goesF 4 c = 5) ∧ (¬ c = 8 → goesF 4 c = 4) := by decide +kernel
theorem goes5 : ∀ c : Nat, c < 24 → (c = 7 → goesF 5 c = 6) ∧ (c = 8 → goesF 5 c = 5) ∧ (¬ (c = 7 ∨ c = 8) → goesF 5 c = 4) := by decide +kernel
theorem looks6 : looksB 6 = false := by decide +kernel
theorem goes2 : ∀ c : Nat, c < 24 → (c = 7 → goesF 2 c = 3) ∧ (c = 8 → goesF 2 c = 4) ∧ (¬ (c = 7 ∨ c = 8) → goesF 2 c < 0) := by decide +kernel
theorem line_l0 (s : ByteArray) (hs : s.size ≤ 4611686018427387000) : ∀ d t, s.size - t = d → t ≤ s.size → Ev (fun k => glossatorref12_slash.l0 k s t) (2, ((S s 3 t).2 : Int)) ∧ (S s 3 t).1 = 3 := by
  intro d
  induction d with
  | zero =>
    intro t hd ht
    rw [S_eq, if_neg (by omega)]
    exact ⟨Ev.step (f := fun _ => some (2, (t : Int))) (fun k => by simp only [glossatorref12_slash.l0]; rw [if_neg (by omega)]) (Ev.now _), rfl⟩
  | succ d ih =>
    intro t hd ht
    obtain ⟨n, hn, e⟩ := byte_nat s t
    obtain ⟨c, hc, ec⟩ := cls_nat s t
    have hb := (bytes_in n hn).2.2.2.2.2.2.2
    rw [← e, ec] at hb
    rw [S_eq, if_pos (by omega), ec]
    by_cases h : c = 2
    · rw [if_pos ((goes3 c hc).1 h)]
      have h10 : bt s t = 10 ∨ bt s t = 13 := by rw [hb]; omega
      refine ⟨Ev.step (f := fun _ => some (2, (t : Int))) (fun k => ?_) (Ev.now _), rfl⟩
      simp only [glossatorref12_slash.l0]
      rw [if_pos (by omega), if_pos (by omega)]
      by_cases h1 : bt s t = 10
      · rw [if_pos h1]
      · rw [if_neg h1, if_pos (by omega)]
    · rw [(goes3 c hc).2 h, if_neg (by omega)]
      have h10 : ¬ (bt s t = 10 ∨ bt s t = 13) := by rw [hb]; omega
      have h2 := ih (t + 1) (by omega) (by omega)
      refine ⟨Ev.step (f := fun k => glossatorref12_slash.l0 k s ((t + 1 : Nat) : Int)) (fun k => ?_) h2.1, h2.2⟩
      simp only [glossatorref12_slash.l0]
      rw [if_pos (by omega), if_pos (by omega), if_neg (by omega), if_neg (by omega), w64 _ (by omega) (by omega)]; rfl
/-- The rest of a block, from a place without a star ahead of it. -/
theorem S4_step (s : ByteArray) (t : Nat) (ht : t + 1 < s.size) : S s 4 t = if cls (bt s t) = 8 ∧ cls (bt s (t + 1 : Nat)) = 7 then (6, t + 2) else S s 4 (t + 1) := by
  obtain ⟨c, hc, ec⟩ := cls_nat s t
  obtain ⟨b, hb, eb⟩ := cls_nat s (t + 1)
  have e5 : S s 5 (t + 1) = if b = 7 then (6, t + 2) else S s 4 (t + 1) := by
    by_cases h7 : b = 7
    · rw [if_pos h7, S_eq s 5, if_pos ht, eb, (goes5 b hb).1 h7, if_neg (by omega), S_dead _ _ _ looks6]
    · rw [if_neg h7, S_eq s 5, if_pos ht, eb, S_eq s 4 (t + 1), if_pos ht, eb]
      by_cases h8 : b = 8
      · rw [(goes5 b hb).2.1 h8, (goes4 b hb).1 h8, if_neg (by omega), if_neg (by omega)]
      · rw [(goes5 b hb).2.2 (by omega), (goes4 b hb).2 h8, if_neg (by omega), if_neg (by omega)]
  rw [S_eq s 4 t, if_pos (by omega), ec, eb]
  by_cases h : c = 8
  · rw [(goes4 c hc).1 h, if_neg (by omega), e5]
    by_cases h7 : b = 7
    · rw [if_pos h7, if_pos (by omega)]
    · rw [if_neg h7, if_neg (by omega)]
  · rw [(goes4 c hc).2 h, if_neg (by omega), if_neg (by omega)]
theorem S4_end (s : ByteArray) (t : Nat) (h1 : s.size ≤ t + 1) (h2 : t ≤ s.size) : (S s 4 t).2 = s.size ∧ rd kinT (S s 4 t).1 = 4 ∧ (S s 4 t).1 ≠ 7 := by
  rw [S_eq]
  by_cases h : t < s.size
  · obtain ⟨c, hc, ec⟩ := cls_nat s t
    rw [if_pos h, ec]
    by_cases h8 : c = 8
    · rw [(goes4 c hc).1 h8, if_neg (by omega), S_eq, if_neg (by omega)]
      exact ⟨by show t + 1 = s.size; omega, (by show rd kinT 5 = 4; decide +kernel), (by show (5 : Int) ≠ 7; decide)⟩
    · rw [(goes4 c hc).2 h8, if_neg (by omega), S_eq, if_neg (by omega)]
      exact ⟨by show t + 1 = s.size; omega, (by show rd kinT 4 = 4; decide +kernel), (by show (4 : Int) ≠ 7; decide)⟩
  · rw [if_neg h]
    exact ⟨by show t = s.size; omega, (by show rd kinT 4 = 4; decide +kernel), (by show (4 : Int) ≠ 7; decide)⟩
theorem block_l1 (s : ByteArray) (hs : s.size ≤ 4611686018427387000) : ∀ d t, s.size - t = d → t ≤ s.size → Ev (fun k => glossatorref12_slash.l1 k s t) (rd kinT (S s 4 t).1, ((S s 4 t).2 : Int)) ∧ (S s 4 t).1 ≠ 7 := by
  intro d
  induction d with
  | zero =>
    intro t hd ht
    obtain ⟨h1, h2, h3⟩ := S4_end s t (by omega) ht
    rw [h1, h2]
    refine ⟨Ev.step (f := fun _ => some (4, (s.size : Int))) (fun k => ?_) (Ev.now _), h3⟩
    simp only [glossatorref12_slash.l1]
    rw [w64 _ (by omega) (by omega), if_neg (by omega)]
  | succ d ih =>
    intro t hd ht
    by_cases hlt : t + 1 < s.size
    · have h2 := ih (t + 1) (by omega) (by omega)
      obtain ⟨n, hn, e⟩ := byte_nat s t
      obtain ⟨m, hm, e2⟩ := byte_nat s (t + 1)
      have hb := (bytes_in n hn).2.2.2.2.2.2.1
      have hb2 := (bytes_in m hm).2.2.2.1
      rw [← e] at hb
      rw [← e2] at hb2
      have ew : wrap64 ((t : Int) + 1) = ((t + 1 : Nat) : Int) := by rw [w64 _ (by omega) (by omega)]; omega
      rw [S4_step s t hlt]
      by_cases h8 : bt s t = 42
      · by_cases h7 : bt s (t + 1 : Nat) = 47
        · rw [if_pos ⟨hb ▸ h8, hb2 ▸ h7⟩]
          refine ⟨Ev.step (f := fun _ => some (3, ((t + 2 : Nat) : Int))) (fun k => ?_) (Ev.now _), (by show (6 : Int) ≠ 7; decide)⟩
          simp only [glossatorref12_slash.l1]
          rw [ew, if_pos (by omega), if_pos (by omega), if_pos (by omega), if_pos h8, if_pos (by omega), if_pos h7, w64 _ (by omega) (by omega)]; rfl
        · rw [if_neg (fun h => h7 (hb2 ▸ h.2))]
          refine ⟨Ev.step (f := fun k => glossatorref12_slash.l1 k s ((t + 1 : Nat) : Int)) (fun k => ?_) h2.1, h2.2⟩
          simp only [glossatorref12_slash.l1]
          rw [ew, if_pos (by omega), if_pos (by omega), if_pos (by omega), if_pos h8, if_pos (by omega), if_neg h7]
      · rw [if_neg (fun h => h8 (hb ▸ h.1))]
        refine ⟨Ev.step (f := fun k => glossatorref12_slash.l1 k s ((t + 1 : Nat) : Int)) (fun k => ?_) h2.1, h2.2⟩
        simp only [glossatorref12_slash.l1]
        rw [ew, if_pos (by omega), if_pos (by omega), if_pos (by omega), if_neg h8]
    · obtain ⟨h1, h2, h3⟩ := S4_end s t (by omega) ht
      rw [h1, h2]
      refine ⟨Ev.step (f := fun _ => some (4, (s.size : Int))) (fun k => ?_) (Ev.now _), h3⟩
      simp only [glossatorref12_slash.l1]
      rw [w64 _ (by omega) (by omega), if_neg (by omega)]
end Go.Proofs.YtdnkjfcndjmdbaaDoor.P

namespace Go.Proofs.YtdnkjfcndjmdbaaDoor.P
open Go.RowKit Go.Proofs.YtdnkjfcndjmdbaaDoorW.PrintWords Q G

/-! ### words -/
theorem word12_l0 (s : ByteArray) : ∀ d i : Nat, d + i = 8 → (∀ j, j < i → s.data.toList ≠ wordsB.getD j []) →
    Ev (fun k => glossatorref12_Word.l0 k s wordsA i) (if s.data.toList ∈ wordsB then 10 + ((wordsB.idxOf s.data.toList : Nat) : Int) else 6) := by
  intro d
  induction d with
  | zero =>
    intro i hi hn
    obtain rfl : i = 8 := by omega
    refine Ev.step (f := fun _ => some 6) (fun k => by simp only [glossatorref12_Word.l0]; rw [if_neg (by simp [wordsA])]) ?_
    rw [if_neg]
    · exact Ev.now _
    · intro hm
      obtain ⟨j, hj, e⟩ := List.getElem_of_mem hm
      have hj8 : j < 8 := by simpa [wordsB] using hj
      exact hn j hj8 (by rw [← e, List.getD_eq_getElem?_getD, List.getElem?_eq_getElem hj]; rfl)
  | succ d ih =>
    intro i hi hn
    have hi8 : i < 8 := by omega
    by_cases he : s.data.toList = wordsB.getD i []
    · refine Ev.step (f := fun _ => some (10 + (i : Int))) (fun k => ?_) ?_
      · simp only [glossatorref12_Word.l0]
        rw [if_pos (by simp [wordsA]; omega), if_pos (by omega), wordsA_at i hi8, if_pos ((beq_bytes s _).2 he).symm]
        congr 1; omega
      · have hm : s.data.toList ∈ wordsB := by rw [he, List.getD_eq_getElem?_getD, List.getElem?_eq_getElem (by simpa [wordsB] using hi8)]; exact List.getElem_mem _
        have hix : wordsB.idxOf s.data.toList = i := by
          have h1 : ∀ i : Nat, i < 8 → wordsB.idxOf (wordsB.getD i []) = i := by decide +kernel
          rw [he]; exact h1 i hi8
        rw [if_pos hm, hix]
        exact Ev.now _
    · refine Ev.step (f := fun k => glossatorref12_Word.l0 k s wordsA ((i + 1 : Nat) : Int)) (fun k => ?_) (ih (i + 1) (by omega) (fun j hj => if e : j = i then e ▸ he else hn j (by omega)))
      simp only [glossatorref12_Word.l0]
      rw [if_pos (by simp [wordsA]; omega), if_pos (by omega), wordsA_at i hi8, if_neg (fun h => he ((beq_bytes s _).1 h.symm)), w64 _ (by omega) (by omega)]
      rfl
theorem word12_ev (s : ByteArray) (hok : ∀ i, i < s.size → okAt s i = true) (hne : s.size ≠ 0) : Ev (fun k => glossatorref12_Word.f k s) (wordF s) := by
  have h : Ev (fun k => glossatorref12_Word.f k s) (if s.data.toList ∈ wordsB then 10 + ((wordsB.idxOf s.data.toList : Nat) : Int) else 6) := Ev.congr (fun _ => rfl) (word12_l0 s 8 0 rfl (fun j hj => by omega))
  unfold wordF
  rw [if_pos hok, if_neg hne]
  by_cases hm : s.data.toList ∈ wordsB
  · rw [if_pos hm] at h
    obtain ⟨j, hj, e⟩ := List.getElem_of_mem hm
    have hj8 : j < 8 := by simpa [wordsB] using hj
    have e2 : s = ⟨(wordsB.getD j []).toArray⟩ := by
      have : s.data.toList = wordsB.getD j [] := by rw [← e, List.getD_eq_getElem?_getD, List.getElem?_eq_getElem hj]; rfl
      rw [← this]
    have hk := word_known j hj8
    have hix : wordsB.idxOf s.data.toList = j := by
      have h1 : ∀ i : Nat, i < 8 → wordsB.idxOf (wordsB.getD i []) = i := by decide +kernel
      rw [e2]; exact h1 j hj8
    rw [hix] at h
    rw [e2] at h ⊢
    rw [if_pos hk.1, hk.2]
    exact h
  · rw [if_neg hm] at h
    rw [if_neg (word_other s (ok_nospace s hok) (by intro e; apply hne; have := congrArg List.length e; simpa using this) hm)]
    exact h
theorem word_loop (s : ByteArray) (hs : s.size ≤ 4611686018427387000) (a : Nat) : ∀ d t, s.size - t = d → t ≤ s.size → a < t → (∀ i, i < (S s 7 t).2 - a → okAt (s.extract a (S s 7 t).2) i = true) →
    Ev (fun k => glossatorref12_one.l1 k s a t) (wordF (s.extract a (S s 7 t).2), ((S s 7 t).2 : Int)) := by
  intro d
  induction d with
  | zero =>
    intro t hd ht ha hok
    have e : S s 7 t = (7, t) := by rw [S_eq, if_neg (by omega)]
    rw [e] at hok ⊢
    have hw := word12_ev (s.extract a t) (fun i hi => hok i (by simpa [Nat.min_eq_left ht] using hi)) (by simp; omega)
    refine Ev.step (f := fun k => (glossatorref12_Word.f k (s.extract a t)).bind fun x => some (x, (t : Int))) (fun k => ?_) (Ev.bind hw (Ev.now _))
    simp only [glossatorref12_one.l1]
    rw [if_neg (by omega), if_pos (by omega), if_pos (by omega), if_pos (by omega), Int.toNat_natCast, Int.toNat_natCast]
  | succ d ih =>
    intro t hd ht ha hok
    obtain ⟨n, hn, e⟩ := byte_nat s t
    obtain ⟨c, hc, ec⟩ := cls_nat s t
    have hl := (bytes_in n hn).2.1
    have hb := (bytes_in n hn).2.2.1
    rw [← e, ec] at hl hb
    by_cases h : c = 3 ∨ c = 4
    · have e7 : S s 7 t = S s 7 (t + 1) := by rw [S_eq, if_pos (by omega), ec, (goes7 c hc).1 h, if_neg (by omega)]
      rw [e7] at hok ⊢
      refine Ev.step (f := fun k => glossatorref12_one.l1 k s a ((t + 1 : Nat) : Int)) (fun k => ?_) (ih (t + 1) (by omega) (by omega) (by omega) hok)
      simp only [glossatorref12_one.l1]
      rw [if_pos (by omega), if_pos (by omega), hl, Option.bind_some]
      by_cases h3 : c = 3
      · rw [if_pos (decide_eq_true (by omega)), w64 _ (by omega) (by omega)]; rfl
      · rw [if_neg (by simp; omega), hb, Option.bind_some, if_pos (decide_eq_true (by omega)), w64 _ (by omega) (by omega)]; rfl
    · have e7 : S s 7 t = (7, t) := by rw [S_eq, if_pos (by omega), ec, if_pos ((goes7 c hc).2 h)]
      rw [e7] at hok ⊢
      have hw := word12_ev (s.extract a t) (fun i hi => hok i (by simpa [Nat.min_eq_left ht] using hi)) (by simp; omega)
      refine Ev.step (f := fun k => (glossatorref12_Word.f k (s.extract a t)).bind fun x => some (x, (t : Int))) (fun k => ?_) (Ev.bind hw (Ev.now _))
      simp only [glossatorref12_one.l1]
      rw [if_pos (by omega), if_pos (by omega), hl, Option.bind_some, if_neg (by simp; omega), hb, Option.bind_some, if_neg (by simp; omega), if_pos (by omega), if_pos (by omega), if_pos (by omega), Int.toNat_natCast, Int.toNat_natCast]

/-! ### characters, quoted texts -/
theorem size_ev (s : ByteArray) (t : Nat) (ht : t < s.size) (hs : s.size ≤ 4611686018427387000) : Ev (fun k => glossatorref12_size.f k s t) ((Utf8.decode s t).2 : Int) := by
  have hd := dec_I s t
  refine ⟨9, fun k hk => ?_⟩
  obtain ⟨m, rfl⟩ : ∃ m, k = m + 9 := ⟨k - 9, by omega⟩
  show glossatorref12_size.f (m + 9) s t = _
  unfold glossatorref12_size.f
  rw [next_f s t m ht hs]
  cases hI : nextI s t with
  | none =>
    rw [hI] at hd
    have h2 := (hd.2.1 rfl).2
    simp only [Option.bind_some, Bool.false_eq_true, if_false]
    congr 1; omega
  | some x =>
    rw [hI] at hd
    have h1 := congrArg Prod.snd hd.1
    simp only [Option.getD_some] at h1
    simp only [Option.bind_some, if_true]
    rw [← h1]
theorem goes9 : ∀ c : Nat, c < 24 → (c = 5 → goesF 9 c = 11) ∧ (c = 6 → goesF 9 c = 10) ∧ (c = 2 → goesF 9 c < 0) ∧ (¬ (c = 5 ∨ c = 6 ∨ c = 2) → goesF 9 c = 9) := by decide +kernel
theorem goes10 : ∀ c : Nat, c < 24 → (c = 2 → goesF 10 c < 0) ∧ (¬ c = 2 → goesF 10 c = 9) := by decide +kernel
theorem looks11 : looksB 11 = false := by decide +kernel
theorem S9_skip (s : ByteArray) (t : Nat) (ht : t < s.size) : S s 9 (t + 1) = S s 9 (t + (Utf8.decode s t).2) := by
  have hp := dec_pos s t
  have hl := dec_le s t ht
  have h := S_row s 9 (by decide +kernel) (by decide) ((Utf8.decode s t).2 - 1) (t + 1) (by omega) (fun j hj => by
    have := dec_cont s t (j + 1) (by omega) (by omega)
    rwa [show t + 1 + j = t + (j + 1) by omega])
  rw [h]
  congr 1; omega
theorem quoted_l0 (s : ByteArray) (hs : s.size ≤ 4611686018427387000) : ∀ d t, s.size - t = d → t ≤ s.size → Ev (fun k => glossatorref12_quoted.l0 k s t) (rd kinT (S s 9 t).1, ((S s 9 t).2 : Int)) ∧ (S s 9 t).1 ≠ 7 := by
  intro d
  induction d using Nat.strongRecOn with
  | ind d ih =>
    intro t hd ht
    by_cases hlt : t < s.size
    · obtain ⟨n, hn, e⟩ := byte_nat s t
      obtain ⟨c, hc, ec⟩ := cls_nat s t
      obtain ⟨_, _, _, _, h5, h6, _, h2⟩ := bytes_in n hn
      rw [← e, ec] at h5 h6 h2
      have hp := dec_pos s t
      have hl := dec_le s t hlt
      by_cases c2 : c = 2
      · have e9 : S s 9 t = (9, t) := by rw [S_eq, if_pos hlt, ec, if_pos ((goes9 c hc).2.2.1 c2)]
        rw [e9]
        have hb : bt s t = 10 ∨ bt s t = 13 := by rw [h2]; omega
        refine ⟨Ev.step (f := fun k => glossatorref12_quoted.j1 k s t false) (fun k => ?_) (Ev.step (f := fun _ => some (9, (t : Int))) (fun k => ?_) (Ev.now _)), by simp⟩
        · simp only [glossatorref12_quoted.l0]
          rw [if_pos (by omega), if_pos (by omega)]
          by_cases hb1 : bt s t = 10
          · rw [if_pos hb1]
          · rw [if_neg hb1, show (bt s t != 13) = false by simp; omega]
        · simp only [glossatorref12_quoted.j1, Bool.false_eq_true, if_false]
      · have hb : ¬ (bt s t = 10 ∨ bt s t = 13) := by rw [h2]; omega
        have hj : ∀ r, Ev (fun k => glossatorref12_quoted.j1 k s t true) r → Ev (fun k => glossatorref12_quoted.l0 k s t) r := fun r hr => Ev.step (fun k => by
          simp only [glossatorref12_quoted.l0]
          rw [if_pos (by omega), if_pos (by omega), if_neg (by omega), show (bt s t != 13) = true by simp; omega]) hr
        by_cases c5 : c = 5
        · have e9 : S s 9 t = (11, t + 1) := by rw [S_eq, if_pos hlt, ec, (goes9 c hc).1 c5, if_neg (by omega), S_dead _ _ _ looks11]
          rw [e9]
          refine ⟨hj _ (Ev.step (f := fun _ => some (8, ((t + 1 : Nat) : Int))) (fun k => ?_) (Ev.now _)), by simp⟩
          simp only [glossatorref12_quoted.j1, if_true]
          rw [if_pos (by omega), if_pos (by omega), if_pos (by rw [h5]; omega), w64 _ (by omega) (by omega)]; rfl
        · by_cases c6 : c = 6
          · have e9 : S s 9 t = S s 10 (t + 1) := by rw [S_eq, if_pos hlt, ec, (goes9 c hc).2.1 c6, if_neg (by omega)]
            have ew : wrap64 ((t : Int) + 1) = ((t + 1 : Nat) : Int) := by rw [w64 _ (by omega) (by omega)]; omega
            have n34 : ¬ bt s t = 34 := by rw [h5]; omega
            have y92 : bt s t = 92 := by rw [h6]; omega
            rw [e9]
            by_cases hend : t + 1 = s.size
            · have e10 : S s 10 (t + 1) = (10, t + 1) := by rw [S_eq, if_neg (by omega)]
              rw [e10]
              refine ⟨hj _ (Ev.step (f := fun _ => some (9, ((t + 1 : Nat) : Int))) (fun k => ?_) (Ev.now _)), by simp⟩
              simp only [glossatorref12_quoted.j1, if_true]
              rw [if_pos (by omega), if_pos (by omega), if_neg n34, if_pos y92, ew, if_pos (by omega)]
            · obtain ⟨m, hm, e2⟩ := byte_nat s (t + 1)
              obtain ⟨b, hb', eb⟩ := cls_nat s (t + 1)
              have hn2 := (bytes_in m hm).2.2.2.2.2.2.2
              rw [← e2, eb] at hn2
              by_cases b2 : b = 2
              · have e10 : S s 10 (t + 1) = (10, t + 1) := by rw [S_eq, if_pos (by omega), eb, if_pos ((goes10 b hb').1 b2)]
                rw [e10]
                have hx : bt s (t + 1 : Nat) = 10 ∨ bt s (t + 1 : Nat) = 13 := by rw [hn2]; omega
                refine ⟨hj _ (Ev.step (f := fun _ => some (9, ((t + 1 : Nat) : Int))) (fun k => ?_) (Ev.now _)), by simp⟩
                simp only [glossatorref12_quoted.j1, if_true]
                rw [if_pos (by omega), if_pos (by omega), if_neg n34, if_pos y92, ew, if_neg (by omega), if_pos (by omega), if_pos (by omega)]
                by_cases hx1 : bt s (t + 1 : Nat) = 10
                · rw [if_pos hx1]
                · rw [if_neg hx1, if_pos (by omega)]
              · have e10 : S s 10 (t + 1) = S s 9 (t + 1 + (Utf8.decode s (t + 1)).2) := by
                  rw [S_eq, if_pos (by omega), eb, (goes10 b hb').2 b2, if_neg (by omega), S9_skip s (t + 1) (by omega)]
                have hx : ¬ (bt s (t + 1 : Nat) = 10 ∨ bt s (t + 1 : Nat) = 13) := by rw [hn2]; omega
                have hp2 := dec_pos s (t + 1)
                have hl2 := dec_le s (t + 1) (by omega)
                have hq := ih (s.size - (t + 1 + (Utf8.decode s (t + 1)).2)) (by omega) (t + 1 + (Utf8.decode s (t + 1)).2) rfl (by omega)
                rw [e10]
                refine ⟨hj _ (Ev.step (f := fun k => (glossatorref12_size.f k s ((t + 1 : Nat) : Int)).bind fun x => glossatorref12_quoted.l0 k s (wrap64 (((t + 1 : Nat) : Int) + x))) (fun k => ?_) (Ev.bind (size_ev s (t + 1) (by omega) hs) ?_)), hq.2⟩
                · simp only [glossatorref12_quoted.j1, if_true]
                  rw [if_pos (by omega), if_pos (by omega), if_neg n34, if_pos y92, ew, if_neg (by omega), if_pos (by omega), if_pos (by omega), if_neg (by omega), if_neg (by omega)]
                · rw [w64 _ (by omega) (by omega)]
                  exact hq.1
          · have e9 : S s 9 t = S s 9 (t + (Utf8.decode s t).2) := by rw [S_eq, if_pos hlt, ec, (goes9 c hc).2.2.2 (by omega), if_neg (by omega), S9_skip s t hlt]
            have hq := ih (s.size - (t + (Utf8.decode s t).2)) (by omega) (t + (Utf8.decode s t).2) rfl (by omega)
            rw [e9]
            refine ⟨hj _ (Ev.step (f := fun k => (glossatorref12_size.f k s (t : Int)).bind fun x => glossatorref12_quoted.l0 k s (wrap64 ((t : Int) + x))) (fun k => ?_) (Ev.bind (size_ev s t hlt hs) ?_)), hq.2⟩
            · simp only [glossatorref12_quoted.j1, if_true]
              rw [if_pos (by omega), if_pos (by omega), if_neg (by rw [h5]; omega), if_neg (by rw [h6]; omega)]
            · rw [w64 _ (by omega) (by omega)]
              exact hq.1
    · have e9 : S s 9 t = (9, t) := by rw [S_eq, if_neg hlt]
      rw [e9]
      refine ⟨Ev.step (f := fun k => glossatorref12_quoted.j1 k s t false) (fun k => ?_) (Ev.step (f := fun _ => some (9, (t : Int))) (fun k => ?_) (Ev.now _)), by simp⟩
      · simp only [glossatorref12_quoted.l0]
        rw [if_neg (by omega)]
      · simp only [glossatorref12_quoted.j1, Bool.false_eq_true, if_false]
end Go.Proofs.YtdnkjfcndjmdbaaDoor.P

namespace Go.Proofs.YtdnkjfcndjmdbaaDoor.P
open Go.RowKit Go.Proofs.YtdnkjfcndjmdbaaDoorW.PrintWords Q G

def twoA : List ByteArray := [⟨#[61, 61]⟩, ⟨#[33, 61]⟩, ⟨#[60, 61]⟩, ⟨#[62, 61]⟩, ⟨#[38, 38]⟩, ⟨#[124, 124]⟩]
def twoK : List Int := [27, 28, 30, 32, 39, 40]
def twoB : List (Int × Int × Int × Int) := [(61, 61, 9, 27), (33, 61, 9, 28), (60, 61, 9, 30), (62, 61, 9, 32), (38, 38, 13, 39), (124, 124, 14, 40)]
def oneA : ByteArray := ⟨#[40, 41, 123, 125, 44, 59, 61, 60, 62, 43, 45, 42, 37, 33]⟩
def oneK : List Int := [20, 21, 22, 23, 24, 25, 26, 29, 31, 33, 34, 35, 37, 38]
/-- The first pair of signs, from place j on, that b0 and a byte of class c1 are; -1: none. -/
def f2 (b0 c1 : Int) : List (Int × Int × Int × Int) → Int
  | [] => -1
  | x :: xs => if b0 = x.1 ∧ c1 = x.2.2.1 then x.2.2.2 else f2 b0 c1 xs
def f1 (b0 : Int) : Nat → Nat → Int
  | 0, _ => 5
  | n + 1, j => if b0 = bt oneA j then rd oneK j else f1 b0 n (j + 1)
theorem pair_cls : ∀ n : Nat, n < 256 → (((n : Int) = 61) ↔ (cls n = 9)) ∧ (((n : Int) = 38) ↔ (cls n = 13)) ∧ (((n : Int) = 124) ↔ (cls n = 14)) := by decide +kernel
def hit1 (b0 : Int) : Nat → Nat → Bool
  | 0, _ => false
  | n + 1, j => decide (b0 = bt oneA j) || hit1 b0 n (j + 1)
def signC (b : Nat) : Bool := decide (cls b = 0 ∨ cls b = 6 ∨ 8 ≤ cls b)
def signT (b c : Nat) : Bool := if f2 b c twoB = -1 then decide (goesF (goesF 0 (cls b)) c < 0) else decide (0 ≤ goesF (goesF 0 (cls b)) c) && (decide (rd kinT (goesF (goesF 0 (cls b)) c) = f2 b c twoB) && (!looksB (goesF (goesF 0 (cls b)) c) && decide (goesF (goesF 0 (cls b)) c ≠ 7)))
theorem sign_tab1 : ∀ b : Nat, b < 128 → signC b = true → goesF 0 (cls b) ≠ 7 ∧ rd kinT (goesF 0 (cls b)) = f1 b 14 0 := by decide +kernel
theorem sign_tab2 : ∀ b : Nat, b < 128 → signC b = true → ∀ c : Nat, c < 24 → signT b c = true := by decide +kernel
theorem one_low : ∀ j : Nat, j < 14 → bt oneA j < 128 := by decide +kernel
theorem one_high (b0 : Int) (h : 128 ≤ b0) : ∀ d j : Nat, d + j = 14 → f1 b0 d j = 5 ∧ hit1 b0 d j = false
  | 0, _, _ => ⟨rfl, rfl⟩
  | d + 1, j, hj => by
    have hl := one_low j (by omega)
    have ih := one_high b0 h d (j + 1) (by omega)
    unfold f1 hit1
    rw [if_neg (by omega), ih.1, ih.2, decide_eq_false (by omega)]
    exact ⟨rfl, rfl⟩
theorem two_at : ∀ j : Nat, j < 6 → rdOf ByteArray.empty twoA (j : Int) = ⟨#[UInt8.ofNat (twoB.getD j (0, 0, 0, 0)).1.toNat, UInt8.ofNat (twoB.getD j (0, 0, 0, 0)).2.1.toNat]⟩ ∧ rd twoK j = (twoB.getD j (0, 0, 0, 0)).2.2.2 := by
  intro j hj
  match j, hj with
  | 0, _ | 1, _ | 2, _ | 3, _ | 4, _ | 5, _ => exact ⟨rfl, rfl⟩
theorem ext_two (s : ByteArray) (p : Nat) (h : p + 2 ≤ s.size) (a b : Nat) (ha : a < 256) (hb : b < 256) : ((s.extract p (p + 2)).toList = (⟨#[UInt8.ofNat a, UInt8.ofNat b]⟩ : ByteArray).toList) ↔ (bt s p = a ∧ bt s (p + 1 : Nat) = b) := by
  have e1 := bt_list s p (by omega)
  have e2 := bt_list s (p + 1) (by omega)
  have e : (s.extract p (p + 2)).data.toList = [s.data.toList[p]'(by simp; omega), s.data.toList[p + 1]'(by simp; omega)] := by
    rw [Lib.extract_data]
    have h1 : (s.data.toList.drop p) = s.data.toList[p]'(by simp; omega) :: s.data.toList[p + 1]'(by simp; omega) :: s.data.toList.drop (p + 2) := by
      rw [List.drop_eq_getElem_cons (by simp; omega), List.drop_eq_getElem_cons (by simp; omega)]
    rw [h1, show p + 2 - p = 2 by omega]
    rfl
  have u : ∀ (x : UInt8) (a : Nat), a < 256 → (x = UInt8.ofNat a ↔ (x.toNat : Int) = (a : Int)) := fun x a ha => by
    constructor
    · intro h; rw [h]; simp; omega
    · intro h
      apply UInt8.toNat_inj.1
      simp; omega
  rw [Lib.toList_data, Lib.toList_data, e, e1, e2]
  simp only [List.cons.injEq, and_true]
  rw [u _ a ha, u _ b hb]
theorem two_bytes : ∀ j : Nat, j < 6 → (twoB.getD j (0, 0, 0, 0)).1.toNat < 256 ∧ (twoB.getD j (0, 0, 0, 0)).2.1.toNat < 256 ∧ 0 ≤ (twoB.getD j (0, 0, 0, 0)).1 ∧ 0 ≤ (twoB.getD j (0, 0, 0, 0)).2.1 ∧ (twoB.getD j (0, 0, 0, 0)).2.2.2 ≠ -1 ∧
    (∀ n : Nat, n < 256 → ((n : Int) = (twoB.getD j (0, 0, 0, 0)).2.1 ↔ cls n = (twoB.getD j (0, 0, 0, 0)).2.2.1)) := by decide +kernel
theorem two_drop : ∀ j : Nat, j < 6 → twoB.drop j = twoB.getD j (0, 0, 0, 0) :: twoB.drop (j + 1) := by
  intro j hj
  match j, hj with
  | 0, _ | 1, _ | 2, _ | 3, _ | 4, _ | 5, _ => rfl
set_option maxHeartbeats 1000000 in
theorem two_l0 (s : ByteArray) (p : Nat) (hp : p < s.size) (hs : s.size ≤ 4611686018427387000) (R : Int × Int) (hR : Ev (fun k => glossatorref12_sign.l1 k s p oneA oneK ((0 : Nat) : Int)) R) : ∀ d j : Nat, d + j = 6 →
    Ev (fun k => glossatorref12_sign.l0 k s p twoA twoK j) (if p + 2 ≤ s.size ∧ f2 (bt s p) (cls (bt s (p + 1 : Nat))) (twoB.drop j) ≠ -1 then (f2 (bt s p) (cls (bt s (p + 1 : Nat))) (twoB.drop j), ((p + 2 : Nat) : Int)) else R) := by
  intro d
  have ew : wrap64 ((p : Int) + 2) = ((p + 2 : Nat) : Int) := by rw [w64 _ (by omega) (by omega)]; omega
  induction d with
  | zero =>
    intro j hj
    obtain rfl : j = 6 := by omega
    have e : f2 (bt s p) (cls (bt s (p + 1 : Nat))) (twoB.drop 6) = -1 := rfl
    rw [e, if_neg (by simp)]
    refine Ev.step (f := fun k => glossatorref12_sign.l1 k s p oneA oneK ((0 : Nat) : Int)) (fun k => ?_) hR
    simp only [glossatorref12_sign.l0]
    rw [if_neg (by simp [twoA])]; rfl
  | succ d ih =>
    intro j hj
    have hj6 : j < 6 := by omega
    have hi := ih (j + 1) (by omega)
    have hA : (j : Int) < (twoA.length : Int) := by show (j : Int) < 6; omega
    have hK : (j : Int) < (twoK.length : Int) := by show (j : Int) < 6; omega
    have hj0 : (0 : Int) ≤ (j : Int) := by omega
    have hp0 : (0 : Int) ≤ (p : Int) := by omega
    have hpp : (p : Int) ≤ ((p + 2 : Nat) : Int) := by omega
    have ej : wrap64 ((j : Int) + 1) = ((j + 1 : Nat) : Int) := by rw [w64 _ (by omega) (by omega)]; omega
    have h2i : p + 2 ≤ s.size → ((p + 2 : Nat) : Int) ≤ (s.size : Int) := fun h => by omega
    have h2n : ¬ p + 2 ≤ s.size → ¬ ((p + 2 : Nat) : Int) ≤ (s.size : Int) := fun h => by omega
    obtain ⟨t1, t2⟩ := two_at j hj6
    obtain ⟨w1, w2, w3, w4, w5, w6⟩ := two_bytes j hj6
    by_cases h2 : p + 2 ≤ s.size
    · have hx := ext_two s p h2 _ _ w1 w2
      rw [Int.toNat_of_nonneg w3, Int.toNat_of_nonneg w4] at hx
      obtain ⟨n, hn, en⟩ := byte_nat s (p + 1)
      have hc := w6 n hn
      rw [← en] at hc
      rw [two_drop j hj6]
      generalize twoB.drop (j + 1) = rest at hi ⊢
      generalize twoB.getD j (0, 0, 0, 0) = x at t1 t2 w5 hx hc ⊢
      by_cases hm : bt s p = x.1 ∧ bt s (p + 1 : Nat) = x.2.1
      · have e : f2 (bt s p) (cls (bt s (p + 1 : Nat))) (x :: rest) = x.2.2.2 := by
          unfold f2; rw [if_pos ⟨hm.1, hc.1 hm.2⟩]
        rw [e, if_pos ⟨h2, w5⟩]
        refine Ev.step (f := fun _ => some (x.2.2.2, ((p + 2 : Nat) : Int))) (fun k => ?_) (Ev.now _)
        simp only [glossatorref12_sign.l0]
        rw [ew, if_pos hA, if_pos (h2i h2), if_pos hp0, if_pos hpp, if_pos hj0, Int.toNat_natCast, Int.toNat_natCast, t1, if_pos (hx.2 hm), if_pos hK, t2]
      · have e : f2 (bt s p) (cls (bt s (p + 1 : Nat))) (x :: rest) = f2 (bt s p) (cls (bt s (p + 1 : Nat))) (rest) := by
          conv => lhs; unfold f2
          rw [if_neg (fun h => hm ⟨h.1, hc.2 h.2⟩)]
        rw [e]
        refine Ev.step (f := fun k => glossatorref12_sign.l0 k s p twoA twoK ((j + 1 : Nat) : Int)) (fun k => ?_) hi
        simp only [glossatorref12_sign.l0]
        rw [ew, if_pos hA, if_pos (h2i h2), if_pos hp0, if_pos hpp, if_pos hj0, Int.toNat_natCast, Int.toNat_natCast, t1, if_neg (fun h => hm (hx.1 h)), ej]
    · clear t1 t2 w1 w2 w3 w4 w5 w6
      rw [if_neg (fun h => h2 h.1)] at hi ⊢
      refine Ev.step (f := fun k => glossatorref12_sign.l0 k s p twoA twoK ((j + 1 : Nat) : Int)) (fun k => ?_) hi
      simp only [glossatorref12_sign.l0]
      rw [ew, if_pos hA, if_neg (h2n h2), ej]
set_option maxHeartbeats 1000000 in
theorem one_l1 (s : ByteArray) (p : Nat) (hp : p < s.size) (hs : s.size ≤ 4611686018427387000) : ∀ d j : Nat, d + j = 14 →
    Ev (fun k => glossatorref12_sign.l1 k s p oneA oneK j) (f1 (bt s p) d j, if hit1 (bt s p) d j = true then ((p + 1 : Nat) : Int) else ((p + (Utf8.decode s p).2 : Nat) : Int)) := by
  intro d
  have hl := dec_le s p hp
  induction d with
  | zero =>
    intro j hj
    obtain rfl : j = 14 := by omega
    rw [if_neg (by simp [hit1])]
    refine Ev.step (f := fun k => (glossatorref12_size.f k s (p : Int)).bind fun x => some (5, wrap64 ((p : Int) + x))) (fun k => ?_) (Ev.bind (size_ev s p hp hs) ?_)
    · simp only [glossatorref12_sign.l1]
      rw [if_neg (by decide +kernel)]
    · rw [w64 _ (by omega) (by omega)]
      exact Ev.now _
  | succ d ih =>
    intro j hj
    have hj14 : j < oneA.size := by show j < 14; omega
    have hk14 : j < oneK.length := by show j < 14; omega
    have ej : wrap64 ((j : Int) + 1) = ((j + 1 : Nat) : Int) := by rw [w64 _ (by omega) (by omega)]; omega
    have ep : wrap64 ((p : Int) + 1) = ((p + 1 : Nat) : Int) := by rw [w64 _ (by omega) (by omega)]; omega
    by_cases h : bt s p = bt oneA j
    · rw [if_pos (by unfold hit1; rw [decide_eq_true h]; rfl)]
      have e : f1 (bt s p) (d + 1) j = rd oneK j := by unfold f1; rw [if_pos h]
      rw [e]
      refine Ev.step (f := fun _ => some (rd oneK j, ((p + 1 : Nat) : Int))) (fun k => ?_) (Ev.now _)
      simp only [glossatorref12_sign.l1]
      rw [if_pos (by omega), if_pos (by omega), if_pos (by omega), if_pos (by omega), if_pos h, if_pos (by omega), ep]
    · have e : f1 (bt s p) (d + 1) j = f1 (bt s p) d (j + 1) := by conv => lhs; unfold f1; rw [if_neg h]
      have e2 : hit1 (bt s p) (d + 1) j = hit1 (bt s p) d (j + 1) := by conv => lhs; unfold hit1; rw [decide_eq_false h, Bool.false_or]
      rw [e, e2]
      refine Ev.step (f := fun k => glossatorref12_sign.l1 k s p oneA oneK ((j + 1 : Nat) : Int)) (fun k => ?_) (ih (j + 1) (by omega))
      simp only [glossatorref12_sign.l1]
      rw [if_pos (by omega), if_pos (by omega), if_pos (by omega), if_pos (by omega), if_neg h, ej]

end Go.Proofs.YtdnkjfcndjmdbaaDoor.P

namespace Go.Proofs.YtdnkjfcndjmdbaaDoor.P
open Go.RowKit Go.Proofs.YtdnkjfcndjmdbaaDoorW.PrintWords Q G

theorem first_cls : ∀ b : Nat, b < 128 → (cls b = 1 ∨ cls b = 2 → goesF 0 (cls b) = 1) ∧ (cls b = 3 → goesF 0 (cls b) = 7) ∧ (cls b = 4 → goesF 0 (cls b) = 8) ∧ (cls b = 5 → goesF 0 (cls b) = 9) ∧ (cls b = 7 → goesF 0 (cls b) = 2) := by decide +kernel
theorem kin_vals : rd kinT 1 = 1 ∧ rd kinT 2 = 36 ∧ rd kinT 3 = 2 ∧ rd kinT 8 = 7 ∧ rd kinT 34 = 5 := by decide +kernel
theorem sign_ev (s : ByteArray) (p : Nat) (hp : p < s.size) (hs : s.size ≤ 4611686018427387000) (hc : cls (bt s p) = 0 ∨ cls (bt s p) = 6 ∨ 8 ≤ cls (bt s p)) :
    Ev (fun k => glossatorref12_sign.f k s p) (kindE s p, ((scanE s p).2.1 : Int)) := by
  have h1 := one_l1 s p hp hs 14 0 rfl
  have h2 := two_l0 s p hp hs _ h1 6 0 rfl
  have e : (fun k => glossatorref12_sign.f k s p) = (fun k => glossatorref12_sign.l0 k s p twoA twoK ((0 : Nat) : Int)) := rfl
  rw [e]
  clear e h1
  rw [List.drop_zero] at h2
  obtain ⟨b, hb, eb⟩ := byte_nat s p
  by_cases hlow : bt s p < 128
  · have hb128 : b < 128 := by omega
    have hsc : signC b = true := decide_eq_true (by rw [← eb]; exact hc)
    obtain ⟨t1, t2⟩ := sign_tab1 b hb128 hsc
    have hd : (Utf8.decode s p).2 = 1 := (dec_low s p hlow hp).2
    rw [hd] at h2
    rw [show (if hit1 (bt s p) 14 0 = true then ((p + 1 : Nat) : Int) else ((p + 1 : Nat) : Int)) = ((p + 1 : Nat) : Int) by split <;> rfl] at h2
    rw [← eb] at t1 t2
    unfold kindE
    rw [scanE_low s p hp hlow, S_eq]
    by_cases hn : p + 1 < s.size
    · obtain ⟨c, hc2, ec⟩ := cls_nat s (p + 1)
      have ht := sign_tab2 b hb128 hsc c hc2
      unfold signT at ht
      rw [ec] at h2 ⊢
      rw [← eb] at ht
      by_cases hf : f2 (bt s p) c twoB = -1
      · rw [if_pos hf] at ht
        have hg := of_decide_eq_true ht
        rw [if_neg (fun h => h.2 hf)] at h2
        rw [if_pos hn, if_pos hg, if_neg t1, t2]
        exact h2
      · rw [if_neg hf] at ht
        simp only [Bool.and_eq_true, decide_eq_true_eq, Bool.not_eq_true'] at ht
        obtain ⟨g1, g2, g3, g4⟩ := ht
        rw [if_pos ⟨by omega, hf⟩] at h2
        rw [if_pos hn, if_neg (show ¬ goesF (goesF 0 (cls (bt s p))) c < 0 by omega), S_dead _ _ _ g3, if_neg g4, g2]
        exact h2
    · rw [if_neg (fun h => hn (by omega))] at h2
      rw [if_neg hn, if_neg t1, t2]
      exact h2
  · have hh := one_high (bt s p) (by omega) 14 0 rfl
    have hf : f2 (bt s p) (cls (bt s (p + 1 : Nat))) twoB = -1 := by
      unfold twoB
      simp only [f2]
      rw [if_neg (by omega), if_neg (by omega), if_neg (by omega), if_neg (by omega), if_neg (by omega), if_neg (by omega)]
    rw [if_neg (fun h => h.2 hf), hh.1, hh.2] at h2
    unfold kindE
    rw [scanE_high s p hp hlow]
    exact h2
theorem slash_ev (s : ByteArray) (p : Nat) (hp : p < s.size) (hs : s.size ≤ 4611686018427387000) (hc : cls (bt s p) = 7) : Ev (fun k => glossatorref12_slash.f k s p) (kindE s p, ((scanE s p).2.1 : Int)) := by
  obtain ⟨b, hb, eb⟩ := byte_nat s p
  have hb47 : bt s p = 47 := by rw [eb, (bytes_in b hb).2.2.2.1, ← eb]; exact hc
  have hst : goesF 0 (cls (bt s p)) = 2 := by rw [hc]; decide +kernel
  have ew : wrap64 ((p : Int) + 1) = ((p + 1 : Nat) : Int) := by rw [w64 _ (by omega) (by omega)]; omega
  have ew2 : wrap64 ((p : Int) + 2) = ((p + 2 : Nat) : Int) := by rw [w64 _ (by omega) (by omega)]; omega
  unfold kindE
  rw [scanE_low s p hp (by omega), hst, S_eq]
  by_cases hn : p + 1 < s.size
  · obtain ⟨n, hn2, en⟩ := byte_nat s (p + 1)
    obtain ⟨c, hcc, ec⟩ := cls_nat s (p + 1)
    obtain ⟨_, _, _, h7, _, _, h8, hnl⟩ := bytes_in n hn2
    rw [← en, ec] at h7 h8 hnl
    rw [if_pos hn, ec]
    by_cases c7 : c = 7
    · rw [(goes2 c hcc).1 c7, if_neg (show ¬ (3 : Int) < 0 by omega)]
      have hl := line_l0 s hs _ (p + 2) rfl (by omega)
      have e3 : S s 3 (p + 1 + 1) = (3, (S s 3 (p + 2)).2) := Prod.ext hl.2 rfl
      rw [e3]
      rw [if_neg (by show ¬ (3 : Int) = 7; decide), kin_vals.2.2.1]
      refine Ev.congr (f := fun k => glossatorref12_slash.j0 k s p true) (fun k => ?_) (Ev.step (f := fun k => glossatorref12_slash.l0 k s (p : Int)) (fun k => ?_) (Ev.step (f := fun k => glossatorref12_slash.l0 k s ((p + 1 : Nat) : Int)) (fun k => ?_) (Ev.step (f := fun k => glossatorref12_slash.l0 k s ((p + 2 : Nat) : Int)) (fun k => ?_) hl.1)))
      · unfold glossatorref12_slash.f
        rw [ew, if_pos (by omega), if_pos (by omega), show (bt s (p + 1 : Nat) == 47) = true by rw [beq_iff_eq, h7]; omega]
      · simp only [glossatorref12_slash.j0, if_true]
      · simp only [glossatorref12_slash.l0]
        rw [if_pos (by omega), if_pos (by omega), if_neg (by omega), if_neg (by omega), ew]
      · simp only [glossatorref12_slash.l0]
        have y47 : bt s (p + 1 : Nat) = 47 := by rw [h7]; omega
        rw [if_pos (by omega), if_pos (by omega), if_neg (by omega), if_neg (by omega), w64 _ (by omega) (by omega)]; rfl
    · have n47 : (bt s (p + 1 : Nat) == 47) = false := by rw [beq_eq_false_iff_ne, ne_eq, h7]; omega
      by_cases c8 : c = 8
      · rw [(goes2 c hcc).2.1 c8, if_neg (show ¬ (4 : Int) < 0 by omega)]
        have hl := block_l1 s hs _ (p + 2) rfl (by omega)
        have hl2 : (S s 4 (p + 1 + 1)).1 ≠ 7 := hl.2
        rw [if_neg hl2]
        refine Ev.congr (f := fun k => glossatorref12_slash.j0 k s p false) (fun k => ?_) (Ev.step (f := fun k => glossatorref12_slash.j2 k s p true) (fun k => ?_) (Ev.step (f := fun k => glossatorref12_slash.l1 k s ((p + 2 : Nat) : Int)) (fun k => ?_) hl.1))
        · unfold glossatorref12_slash.f
          rw [ew, if_pos (by omega), if_pos (by omega), n47]
        · simp only [glossatorref12_slash.j0, Bool.false_eq_true, if_false]
          rw [ew, if_pos (by omega), if_pos (by omega), show (bt s (p + 1 : Nat) == 42) = true by rw [beq_iff_eq, h8]; omega]
        · simp only [glossatorref12_slash.j2, if_true]
          rw [ew2]
      · rw [if_pos ((goes2 c hcc).2.2 (by omega)), if_neg (by show ¬ (2 : Int) = 7; decide), kin_vals.2.1]
        refine Ev.congr (f := fun k => glossatorref12_slash.j0 k s p false) (fun k => ?_) (Ev.step (f := fun k => glossatorref12_slash.j2 k s p false) (fun k => ?_) (Ev.step (f := fun _ => some (36, ((p + 1 : Nat) : Int))) (fun k => ?_) (Ev.now _)))
        · unfold glossatorref12_slash.f
          rw [ew, if_pos (by omega), if_pos (by omega), n47]
        · simp only [glossatorref12_slash.j0, Bool.false_eq_true, if_false]
          rw [ew, if_pos (by omega), if_pos (by omega), show (bt s (p + 1 : Nat) == 42) = false by rw [beq_eq_false_iff_ne, ne_eq, h8]; omega]
        · simp only [glossatorref12_slash.j2, Bool.false_eq_true, if_false]
          rw [ew]
  · rw [if_neg hn, if_neg (by show ¬ (2 : Int) = 7; decide), kin_vals.2.1]
    refine Ev.congr (f := fun k => glossatorref12_slash.j0 k s p false) (fun k => ?_) (Ev.step (f := fun k => glossatorref12_slash.j2 k s p false) (fun k => ?_) (Ev.step (f := fun _ => some (36, ((p + 1 : Nat) : Int))) (fun k => ?_) (Ev.now _)))
    · unfold glossatorref12_slash.f
      rw [ew, if_neg (by omega)]
    · simp only [glossatorref12_slash.j0, Bool.false_eq_true, if_false]
      rw [ew, if_neg (by omega)]
    · simp only [glossatorref12_slash.j2, Bool.false_eq_true, if_false]
      rw [ew]
end Go.Proofs.YtdnkjfcndjmdbaaDoor.P
