/- Plain facts on one token: the scan by characters is a scan by bytes, behind the first character; it hangs on the bytes that it has and looked at. -/
import Derived.Test.YtdnkjfcndjmdbaaDoorGf
namespace Go.Proofs.YtdnkjfcndjmdbaaDoor.P
open Go.RowKit Go.Proofs.YtdnkjfcndjmdbaaDoorW.PrintWords G

theorem scanL_fuel (s : ByteArray) : ∀ n m st t wr, s.size < t + n → s.size < t + m → scanL s n st t wr = scanL s m st t wr := by
  intro n
  induction n with
  | zero =>
    intro m st t wr h1 h2
    cases m with
    | zero => rfl
    | succ m => unfold scanL; rw [if_neg (by omega)]
  | succ n ih =>
    intro m st t wr h1 h2
    cases m with
    | zero => unfold scanL; rw [if_neg (by omega)]
    | succ m =>
      unfold scanL
      by_cases ht : t < s.size
      · rw [if_pos ht, if_pos ht]
        have := dec_pos s t
        split
        · rfl
        · exact ih m _ _ _ (by omega) (by omega)
      · rw [if_neg ht, if_neg ht]
/-- The scan from a state on, with rounds enough. -/
def R (s : ByteArray) (st : Int) (t : Nat) (wr : Bool) : Int × Nat × Bool := scanL s (s.size + 1) st t wr
theorem R_eq (s : ByteArray) (st : Int) (t : Nat) (wr : Bool) : R s st t wr =
    if t < s.size then
      if goesF st (cls (Utf8.decode s t).1) < 0 then (st, t, wr)
      else R s (goesF st (cls (Utf8.decode s t).1)) (t + (Utf8.decode s t).2) (decide (st = 0 ∧ ((Utf8.decode s t).1 : Int) = 65533 ∧ ((Utf8.decode s t).2 : Int) = 1))
    else (st, t, wr) := by
  have := dec_pos s t
  conv => lhs; unfold R scanL
  unfold R
  split
  · split
    · rfl
    · exact scanL_fuel s _ _ _ _ _ (by omega) (by omega)
  · rfl
theorem scanE_R (s : ByteArray) (t : Nat) : scanE s t = R s 0 t false := rfl

theorem get!_bt (s : ByteArray) (i : Nat) : ((s.get! i).toNat : Int) = bt s i := by
  unfold bt
  by_cases h : i < s.size
  · rw [dif_pos (by simpa using h)]
    have : s.get! i = s[i]'h := by
      cases s with
      | mk d => exact getElem!_pos d i h
    rw [this]; rfl
  · rw [dif_neg (by simpa using h)]
    have : s.get! i = 0 := by
      cases s with
      | mk d => exact getElem!_neg d i h
    rw [this]; rfl
theorem cls_high (r : Int) (h : 128 ≤ r) : cls r = 0 := by
  unfold cls
  rw [if_neg (by omega), if_neg (by omega), if_neg (by omega), if_neg (by omega), if_pos (by omega)]
theorem dec_low (s : ByteArray) (t : Nat) (h : bt s t < 128) (_ht : t < s.size) : ((Utf8.decode s t).1 : Int) = bt s t ∧ (Utf8.decode s t).2 = 1 := by
  rw [Lib.decode_at]
  have e := get!_bt s t
  unfold Lib.decodeN
  rw [if_pos (by omega)]
  exact ⟨e, rfl⟩
theorem decN_high (n b0 b1 b2 b3 : Nat) (h : 128 ≤ b0) : 128 ≤ (Lib.decodeN n b0 b1 b2 b3).1 := by
  unfold Lib.decodeN
  rw [if_neg (by omega)]
  (repeat' split) <;> simp only <;> omega
theorem dec_cls (s : ByteArray) (t : Nat) (ht : t < s.size) : cls (Utf8.decode s t).1 = cls (bt s t) := by
  by_cases h : bt s t < 128
  · rw [(dec_low s t h ht).1]
  · rw [cls_high (bt s t) (by omega), cls_high]
    rw [Lib.decode_at]
    have e := get!_bt s t
    have := decN_high (s.size - t) (s.get! t).toNat (s.get! (t + 1)).toNat (s.get! (t + 2)).toNat (s.get! (t + 3)).toNat (by omega)
    omega
/-- The bytes of a character behind its first are continuations. -/
theorem dec_cont (s : ByteArray) (t j : Nat) (h1 : 1 ≤ j) (h2 : j < (Utf8.decode s t).2) : 128 ≤ bt s (t + j : Nat) := by
  rw [Lib.decode_at] at h2
  have e1 := get!_bt s (t + 1)
  have e2 := get!_bt s (t + 2)
  have e3 := get!_bt s (t + 3)
  unfold Lib.decodeN at h2
  have hj : j = 1 ∨ j = 2 ∨ j = 3 ∨ 4 ≤ j := by omega
  rcases hj with rfl | rfl | rfl | hj
  · split at h2
    · simp at h2
    · split at h2
      · omega
      · split at h2
        · omega
        · split at h2
          · omega
          · simp at h2
  · split at h2
    · simp at h2
    · split at h2
      · split at h2 <;> simp at h2
      · split at h2
        · omega
        · split at h2
          · omega
          · simp at h2
  · split at h2
    · simp at h2
    · split at h2
      · split at h2 <;> simp at h2
      · split at h2
        · split at h2 <;> simp at h2
        · split at h2
          · omega
          · simp at h2
  · exfalso
    (repeat' split at h2) <;> simp only at h2 <;> omega

/-- The scan by bytes. -/
def B (s : ByteArray) : Nat → Int → Nat → Int × Nat
  | 0, st, t => (st, t)
  | n + 1, st, t => if t < s.size then (if goesF st (cls (bt s t)) < 0 then (st, t) else B s n (goesF st (cls (bt s t))) (t + 1)) else (st, t)
theorem B_fuel (s : ByteArray) : ∀ n m st t, s.size < t + n → s.size < t + m → B s n st t = B s m st t := by
  intro n
  induction n with
  | zero =>
    intro m st t h1 h2
    cases m with
    | zero => rfl
    | succ m => unfold B; rw [if_neg (by omega)]
  | succ n ih =>
    intro m st t h1 h2
    cases m with
    | zero => unfold B; rw [if_neg (by omega)]
    | succ m =>
      unfold B
      by_cases ht : t < s.size
      · rw [if_pos ht, if_pos ht]
        split
        · rfl
        · exact ih m _ _ (by omega) (by omega)
      · rw [if_neg ht, if_neg ht]
def S (s : ByteArray) (st : Int) (t : Nat) : Int × Nat := B s (s.size + 1) st t
theorem S_eq (s : ByteArray) (st : Int) (t : Nat) : S s st t =
    if t < s.size then (if goesF st (cls (bt s t)) < 0 then (st, t) else S s (goesF st (cls (bt s t))) (t + 1)) else (st, t) := by
  conv => lhs; unfold S B
  unfold S
  split
  · split
    · rfl
    · exact B_fuel s _ _ _ _ (by omega) (by omega)
  · rfl

theorem goes_zero : ∀ st : Nat, st < 35 → 1 ≤ st → 0 ≤ goesF (st : Int) 0 → goesF (goesF (st : Int) 0) 0 = goesF (st : Int) 0 := by decide +kernel
theorem goes_pos : ∀ st : Nat, st < 35 → ∀ c : Nat, c < 24 → (0 ≤ goesF (st : Int) c → 1 ≤ goesF (st : Int) c) ∧ goesF (st : Int) c < 35 := by decide +kernel
theorem goes_start : ∀ c : Nat, c < 24 → 1 ≤ goesF 0 c ∧ goesF 0 c < 35 := by decide +kernel
theorem goes_ok (st c : Int) (h0 : 0 ≤ st) (h1 : st < 35) (hc : 0 ≤ c ∧ c < 24) : (0 ≤ goesF st c → 1 ≤ goesF st c) ∧ goesF st c < 35 := by
  obtain ⟨a, rfl⟩ := Int.eq_ofNat_of_zero_le h0
  obtain ⟨b, rfl⟩ := Int.eq_ofNat_of_zero_le hc.1
  exact goes_pos a (by omega) b (by omega)

/-- In a state that stays at others, a row of high bytes is passed over. -/
theorem S_row (s : ByteArray) (g : Int) (hg : goesF g 0 = g) (h0 : 0 ≤ g) : ∀ w t, t + w ≤ s.size → (∀ j, j < w → 128 ≤ bt s (t + j : Nat)) → S s g t = S s g (t + w) := by
  intro w
  induction w with
  | zero => intro t _ _; rfl
  | succ w ih =>
    intro t h1 h2
    rw [S_eq, if_pos (by omega), cls_high _ (by simpa using h2 0 (by omega)), hg, if_neg (by omega), ih (t + 1) (by omega) (fun j hj => by have := h2 (j + 1) (by omega); rwa [show t + (j + 1) = t + 1 + j by omega] at this)]
    congr 1; omega

theorem R_S (s : ByteArray) : ∀ d st t, s.size - t = d → 1 ≤ st → st < 35 → t ≤ s.size → R s st t false = ((S s st t).1, (S s st t).2, false) := by
  intro d
  induction d using Nat.strongRecOn with
  | ind d ih =>
    intro st t hd h0 h1 ht
    rw [R_eq, S_eq]
    by_cases hlt : t < s.size
    · rw [if_pos hlt, if_pos hlt, dec_cls s t hlt]
      have hc := cls_range (bt s t)
      have hg := goes_ok st (cls (bt s t)) (by omega) h1 hc
      by_cases hneg : goesF st (cls (bt s t)) < 0
      · rw [if_pos hneg, if_pos hneg]
      · rw [if_neg hneg, if_neg hneg, decide_eq_false (by omega)]
        have hp := dec_pos s t
        have hl := dec_le s t hlt
        rw [ih (s.size - (t + (Utf8.decode s t).2)) (by omega) _ _ rfl (hg.1 (by omega)) hg.2 hl]
        by_cases hb : bt s t < 128
        · rw [(dec_low s t hb hlt).2]
        · have hz : cls (bt s t) = 0 := cls_high _ (by omega)
          rw [hz] at hneg ⊢
          obtain ⟨a, rfl⟩ := Int.eq_ofNat_of_zero_le (show 0 ≤ st by omega)
          have hrow := S_row s (goesF a 0) (goes_zero a (by omega) (by omega) (by omega)) (by omega) ((Utf8.decode s t).2 - 1) (t + 1) (by omega)
            (fun j hj => by have := dec_cont s t (j + 1) (by omega) (by omega); rwa [show t + (j + 1) = t + 1 + j by omega] at this)
          rw [hrow, show t + 1 + ((Utf8.decode s t).2 - 1) = t + (Utf8.decode s t).2 by omega]
    · rw [if_neg hlt, if_neg hlt]

theorem dead34 : ∀ c : Nat, c < 24 → goesF 34 c < 0 := by decide +kernel
theorem goes34 (c : Int) (hc : 0 ≤ c ∧ c < 24) : goesF 34 c < 0 := by
  obtain ⟨b, rfl⟩ := Int.eq_ofNat_of_zero_le hc.1
  exact dead34 b (by omega)
theorem R34 (s : ByteArray) (t : Nat) (wr : Bool) : R s 34 t wr = (34, t, wr) := by
  rw [R_eq]
  split
  · rw [if_pos (goes34 _ (cls_range _))]
  · rfl
/-- A token that begins with a byte of ASCII. -/
theorem scanE_low (s : ByteArray) (t : Nat) (ht : t < s.size) (hb : bt s t < 128) :
    scanE s t = ((S s (goesF 0 (cls (bt s t))) (t + 1)).1, (S s (goesF 0 (cls (bt s t))) (t + 1)).2, false) := by
  have hc := cls_range (bt s t)
  obtain ⟨c, hcc⟩ := Int.eq_ofNat_of_zero_le hc.1
  have hg := goes_start c (by omega)
  rw [scanE_R, R_eq, if_pos ht, dec_cls s t ht, hcc, if_neg (by omega), (dec_low s t hb ht).2, (dec_low s t hb ht).1, decide_eq_false (by omega)]
  exact R_S s _ _ _ rfl hg.1 hg.2 (by omega)
/-- A token that begins with a high byte: one character, or one byte of none. -/
theorem scanE_high (s : ByteArray) (t : Nat) (ht : t < s.size) (hb : ¬ bt s t < 128) :
    scanE s t = (34, t + (Utf8.decode s t).2, decide ((Utf8.decode s t).1 = 65533 ∧ (Utf8.decode s t).2 = 1)) := by
  rw [scanE_R, R_eq, if_pos ht, dec_cls s t ht, cls_high _ (by omega), show goesF 0 0 = 34 from rfl, if_neg (by omega), R34]
  congr 2
  rw [decide_eq_decide]; omega
end Go.Proofs.YtdnkjfcndjmdbaaDoor.P
