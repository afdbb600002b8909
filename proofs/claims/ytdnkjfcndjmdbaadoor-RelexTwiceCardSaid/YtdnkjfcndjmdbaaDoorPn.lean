/- Plain: the reference's Next (layer 1) is the model's decoder. -/
import Derived.Test.YtdnkjfcndjmdbaaDoorQx3
import Derived.Test.YtdnkjfcndjmdbaaDoorPs
namespace Go.Proofs.YtdnkjfcndjmdbaaDoor.P
open Go.RowKit Go.Proofs.YtdnkjfcndjmdbaaDoorW.PrintWords Q

theorem bt_list (s : ByteArray) (i : Nat) (h : i < s.size) : bt s i = ((s.data.toList[i]'(by simpa using h)).toNat : Int) := by
  unfold bt; rw [dif_pos (by simpa using h)]; rfl
theorem w64 (x : Int) (h0 : -9223372036854775808 ≤ x) (h1 : x < 9223372036854775808) : wrap64 x = x := by unfold wrap64; omega
theorem w32 (x : Int) (h0 : -2147483648 ≤ x) (h1 : x < 2147483648) : wrap32 x = x := by unfold wrap32; omega
theorem next_l0 (s : ByteArray) (t i : Nat) (k n : Int) (fuel : Nat) (hs : s.size ≤ 4611686018427387000) (hi : (i : Int) < k) (ht : t + i < s.size) (hn : 0 ≤ n ∧ n < 4194304) :
    glossatorref01_Next.l0 (fuel + 1) s t k n i = if bt s (t + i : Nat) < 128 then some (0, 0, false) else if 192 ≤ bt s (t + i : Nat) then some (0, 0, false) else glossatorref01_Next.l0 fuel s t k (n * 64 + bt s (t + i : Nat) - 128) ((i + 1 : Nat) : Int) := by
  have hb := bt_range s (t + i : Nat)
  conv => lhs; unfold glossatorref01_Next.l0
  have e : ((t : Int) + i) = ((t + i : Nat) : Int) := by omega
  rw [if_pos hi, w64 ((t : Int) + i) (by omega) (by omega), if_pos (by omega), if_pos (by omega), e, w64 _ (by omega) (by omega), w64 (n * 64) (by omega) (by omega), w64 (n * 64 + _) (by omega) (by omega), w64 (n * 64 + _ - 128) (by omega) (by omega), w64 ((i : Int) + 1) (by omega) (by omega)]
  rfl
def least (k : Int) : Int := if k = 2 then 128 else if k = 3 then 2048 else if k = 4 then 65536 else 0
theorem next_end (s : ByteArray) (t : Nat) (k n : Int) (fuel : Nat) (hk : k = 2 ∨ k = 3 ∨ k = 4) (hn : 0 ≤ n ∧ n < 4194304) :
    glossatorref01_Next.l0 (fuel + 1) s t k n k = if n < least k ∨ 1114111 < n ∨ (55296 ≤ n ∧ n < 57344) then some (0, 0, false) else some (n, k, true) := by
  unfold glossatorref01_Next.l0
  rw [if_neg (by omega)]
  simp only [Option.bind_some]
  have hl : rd [0, 0, 128, 2048, 65536] k = least k := by rcases hk with rfl | rfl | rfl <;> rfl
  rw [if_pos (by omega), if_pos (by simp; omega), hl, w32 n (by omega) (by omega)]
  (repeat' split) <;> first | rfl | omega

/-- The model's decoder over the bytes as numbers. -/
def decI (m : Int) (b0 b1 b2 b3 : Int) : Option (Int × Int) :=
  if b0 < 128 then some (b0, 1)
  else if 192 ≤ b0 ∧ b0 < 224 then (if 1 < m ∧ 128 ≤ b1 ∧ b1 < 192 ∧ 128 ≤ (b0 - 192) * 64 + b1 - 128 then some ((b0 - 192) * 64 + b1 - 128, 2) else none)
  else if 224 ≤ b0 ∧ b0 < 240 then
    (if 2 < m ∧ 128 ≤ b1 ∧ b1 < 192 ∧ 128 ≤ b2 ∧ b2 < 192 ∧ 2048 ≤ ((b0 - 224) * 64 + b1 - 128) * 64 + b2 - 128 ∧ ¬ (55296 ≤ ((b0 - 224) * 64 + b1 - 128) * 64 + b2 - 128 ∧ ((b0 - 224) * 64 + b1 - 128) * 64 + b2 - 128 < 57344) then some (((b0 - 224) * 64 + b1 - 128) * 64 + b2 - 128, 3) else none)
  else if 240 ≤ b0 ∧ b0 < 248 then
    (if 3 < m ∧ 128 ≤ b1 ∧ b1 < 192 ∧ 128 ≤ b2 ∧ b2 < 192 ∧ 128 ≤ b3 ∧ b3 < 192 ∧ 65536 ≤ (((b0 - 240) * 64 + b1 - 128) * 64 + b2 - 128) * 64 + b3 - 128 ∧ (((b0 - 240) * 64 + b1 - 128) * 64 + b2 - 128) * 64 + b3 - 128 ≤ 1114111 then some ((((b0 - 240) * 64 + b1 - 128) * 64 + b2 - 128) * 64 + b3 - 128, 4) else none)
  else none
theorem decN_I (m b0 b1 b2 b3 : Nat) (h0 : b0 < 256) (h1 : b1 < 256) (h2 : b2 < 256) (h3 : b3 < 256) :
    (((Lib.decodeN m b0 b1 b2 b3).1 : Int), ((Lib.decodeN m b0 b1 b2 b3).2 : Int)) = ((decI m b0 b1 b2 b3).getD (65533, 1)) ∧
    ((decI m b0 b1 b2 b3 = none) ↔ ((Lib.decodeN m b0 b1 b2 b3).1 = 65533 ∧ (Lib.decodeN m b0 b1 b2 b3).2 = 1)) := by
  unfold Lib.decodeN decI
  by_cases c0 : b0 < 128
  · rw [if_pos c0, if_pos (show (b0 : Int) < 128 by omega)]
    refine ⟨rfl, ?_⟩
    simp; omega
  rw [if_neg c0, if_neg (show ¬ (b0 : Int) < 128 by omega)]
  by_cases c1 : 192 ≤ b0 ∧ b0 < 224
  · by_cases d1 : 1 < m ∧ 128 ≤ b1 ∧ b1 < 192
    · by_cases d2 : (b0 % 32 * 64 + b1 % 64 ≥ 128)
      · rw [if_pos (show (b0 / 32 = 6 ∧ (1 < m ∧ b1 / 64 = 2)) by omega), if_pos d2, if_pos (show (192 ≤ (b0 : Int) ∧ (b0 : Int) < 224) by omega), if_pos (show (1 < (m : Int) ∧ 128 ≤ (b1 : Int) ∧ (b1 : Int) < 192 ∧ 128 ≤ ((b0 : Int) - 192) * 64 + b1 - 128) by omega)]
        refine ⟨?_, by simp⟩
        simp only [Option.getD_some, Prod.mk.injEq]; omega
      · rw [if_pos (show (b0 / 32 = 6 ∧ (1 < m ∧ b1 / 64 = 2)) by omega), if_neg d2, if_pos (show (192 ≤ (b0 : Int) ∧ (b0 : Int) < 224) by omega), if_neg (show ¬ (1 < (m : Int) ∧ 128 ≤ (b1 : Int) ∧ (b1 : Int) < 192 ∧ 128 ≤ ((b0 : Int) - 192) * 64 + b1 - 128) by omega)]
        simp
    · rw [if_neg (show ¬ (b0 / 32 = 6 ∧ (1 < m ∧ b1 / 64 = 2)) by omega), if_neg (show ¬ (b0 / 16 = 14 ∧ (1 < m ∧ b1 / 64 = 2) ∧ (2 < m ∧ b2 / 64 = 2)) by omega), if_neg (show ¬ (b0 / 8 = 30 ∧ (1 < m ∧ b1 / 64 = 2) ∧ (2 < m ∧ b2 / 64 = 2) ∧ (3 < m ∧ b3 / 64 = 2)) by omega), if_pos (show (192 ≤ (b0 : Int) ∧ (b0 : Int) < 224) by omega), if_neg (show ¬ (1 < (m : Int) ∧ 128 ≤ (b1 : Int) ∧ (b1 : Int) < 192 ∧ 128 ≤ ((b0 : Int) - 192) * 64 + b1 - 128) by omega)]
      simp
  by_cases c2 : 224 ≤ b0 ∧ b0 < 240
  · by_cases d1 : 2 < m ∧ 128 ≤ b1 ∧ b1 < 192 ∧ 128 ≤ b2 ∧ b2 < 192
    · by_cases d2 : (b0 % 16 * 4096 + b1 % 64 * 64 + b2 % 64 ≥ 2048 ∧ (b0 % 16 * 4096 + b1 % 64 * 64 + b2 % 64 < 55296 ∨ (57344 ≤ b0 % 16 * 4096 + b1 % 64 * 64 + b2 % 64 ∧ b0 % 16 * 4096 + b1 % 64 * 64 + b2 % 64 ≤ 1114111)))
      · rw [if_neg (show ¬ (b0 / 32 = 6 ∧ (1 < m ∧ b1 / 64 = 2)) by omega), if_pos (show (b0 / 16 = 14 ∧ (1 < m ∧ b1 / 64 = 2) ∧ (2 < m ∧ b2 / 64 = 2)) by omega), if_pos d2, if_neg (show ¬ (192 ≤ (b0 : Int) ∧ (b0 : Int) < 224) by omega), if_pos (show (224 ≤ (b0 : Int) ∧ (b0 : Int) < 240) by omega), if_pos (show (2 < (m : Int) ∧ 128 ≤ (b1 : Int) ∧ (b1 : Int) < 192 ∧ 128 ≤ (b2 : Int) ∧ (b2 : Int) < 192 ∧ 2048 ≤ (((b0 : Int) - 224) * 64 + b1 - 128) * 64 + b2 - 128 ∧ ¬ (55296 ≤ (((b0 : Int) - 224) * 64 + b1 - 128) * 64 + b2 - 128 ∧ (((b0 : Int) - 224) * 64 + b1 - 128) * 64 + b2 - 128 < 57344)) by omega)]
        refine ⟨?_, by simp⟩
        simp only [Option.getD_some, Prod.mk.injEq]; omega
      · rw [if_neg (show ¬ (b0 / 32 = 6 ∧ (1 < m ∧ b1 / 64 = 2)) by omega), if_pos (show (b0 / 16 = 14 ∧ (1 < m ∧ b1 / 64 = 2) ∧ (2 < m ∧ b2 / 64 = 2)) by omega), if_neg d2, if_neg (show ¬ (192 ≤ (b0 : Int) ∧ (b0 : Int) < 224) by omega), if_pos (show (224 ≤ (b0 : Int) ∧ (b0 : Int) < 240) by omega), if_neg (show ¬ (2 < (m : Int) ∧ 128 ≤ (b1 : Int) ∧ (b1 : Int) < 192 ∧ 128 ≤ (b2 : Int) ∧ (b2 : Int) < 192 ∧ 2048 ≤ (((b0 : Int) - 224) * 64 + b1 - 128) * 64 + b2 - 128 ∧ ¬ (55296 ≤ (((b0 : Int) - 224) * 64 + b1 - 128) * 64 + b2 - 128 ∧ (((b0 : Int) - 224) * 64 + b1 - 128) * 64 + b2 - 128 < 57344)) by omega)]
        simp
    · rw [if_neg (show ¬ (b0 / 32 = 6 ∧ (1 < m ∧ b1 / 64 = 2)) by omega), if_neg (show ¬ (b0 / 16 = 14 ∧ (1 < m ∧ b1 / 64 = 2) ∧ (2 < m ∧ b2 / 64 = 2)) by omega), if_neg (show ¬ (b0 / 8 = 30 ∧ (1 < m ∧ b1 / 64 = 2) ∧ (2 < m ∧ b2 / 64 = 2) ∧ (3 < m ∧ b3 / 64 = 2)) by omega), if_neg (show ¬ (192 ≤ (b0 : Int) ∧ (b0 : Int) < 224) by omega), if_pos (show (224 ≤ (b0 : Int) ∧ (b0 : Int) < 240) by omega), if_neg (show ¬ (2 < (m : Int) ∧ 128 ≤ (b1 : Int) ∧ (b1 : Int) < 192 ∧ 128 ≤ (b2 : Int) ∧ (b2 : Int) < 192 ∧ 2048 ≤ (((b0 : Int) - 224) * 64 + b1 - 128) * 64 + b2 - 128 ∧ ¬ (55296 ≤ (((b0 : Int) - 224) * 64 + b1 - 128) * 64 + b2 - 128 ∧ (((b0 : Int) - 224) * 64 + b1 - 128) * 64 + b2 - 128 < 57344)) by omega)]
      simp
  by_cases c3 : 240 ≤ b0 ∧ b0 < 248
  · by_cases d1 : 3 < m ∧ 128 ≤ b1 ∧ b1 < 192 ∧ 128 ≤ b2 ∧ b2 < 192 ∧ 128 ≤ b3 ∧ b3 < 192
    · by_cases d2 : (b0 % 8 * 262144 + b1 % 64 * 4096 + b2 % 64 * 64 + b3 % 64 ≥ 65536 ∧ (b0 % 8 * 262144 + b1 % 64 * 4096 + b2 % 64 * 64 + b3 % 64 < 55296 ∨ (57344 ≤ b0 % 8 * 262144 + b1 % 64 * 4096 + b2 % 64 * 64 + b3 % 64 ∧ b0 % 8 * 262144 + b1 % 64 * 4096 + b2 % 64 * 64 + b3 % 64 ≤ 1114111)))
      · rw [if_neg (show ¬ (b0 / 32 = 6 ∧ (1 < m ∧ b1 / 64 = 2)) by omega), if_neg (show ¬ (b0 / 16 = 14 ∧ (1 < m ∧ b1 / 64 = 2) ∧ (2 < m ∧ b2 / 64 = 2)) by omega), if_pos (show (b0 / 8 = 30 ∧ (1 < m ∧ b1 / 64 = 2) ∧ (2 < m ∧ b2 / 64 = 2) ∧ (3 < m ∧ b3 / 64 = 2)) by omega), if_pos d2, if_neg (show ¬ (192 ≤ (b0 : Int) ∧ (b0 : Int) < 224) by omega), if_neg (show ¬ (224 ≤ (b0 : Int) ∧ (b0 : Int) < 240) by omega), if_pos (show (240 ≤ (b0 : Int) ∧ (b0 : Int) < 248) by omega), if_pos (show (3 < (m : Int) ∧ 128 ≤ (b1 : Int) ∧ (b1 : Int) < 192 ∧ 128 ≤ (b2 : Int) ∧ (b2 : Int) < 192 ∧ 128 ≤ (b3 : Int) ∧ (b3 : Int) < 192 ∧ 65536 ≤ ((((b0 : Int) - 240) * 64 + b1 - 128) * 64 + b2 - 128) * 64 + b3 - 128 ∧ ((((b0 : Int) - 240) * 64 + b1 - 128) * 64 + b2 - 128) * 64 + b3 - 128 ≤ 1114111) by omega)]
        refine ⟨?_, by simp⟩
        simp only [Option.getD_some, Prod.mk.injEq]; omega
      · rw [if_neg (show ¬ (b0 / 32 = 6 ∧ (1 < m ∧ b1 / 64 = 2)) by omega), if_neg (show ¬ (b0 / 16 = 14 ∧ (1 < m ∧ b1 / 64 = 2) ∧ (2 < m ∧ b2 / 64 = 2)) by omega), if_pos (show (b0 / 8 = 30 ∧ (1 < m ∧ b1 / 64 = 2) ∧ (2 < m ∧ b2 / 64 = 2) ∧ (3 < m ∧ b3 / 64 = 2)) by omega), if_neg d2, if_neg (show ¬ (192 ≤ (b0 : Int) ∧ (b0 : Int) < 224) by omega), if_neg (show ¬ (224 ≤ (b0 : Int) ∧ (b0 : Int) < 240) by omega), if_pos (show (240 ≤ (b0 : Int) ∧ (b0 : Int) < 248) by omega), if_neg (show ¬ (3 < (m : Int) ∧ 128 ≤ (b1 : Int) ∧ (b1 : Int) < 192 ∧ 128 ≤ (b2 : Int) ∧ (b2 : Int) < 192 ∧ 128 ≤ (b3 : Int) ∧ (b3 : Int) < 192 ∧ 65536 ≤ ((((b0 : Int) - 240) * 64 + b1 - 128) * 64 + b2 - 128) * 64 + b3 - 128 ∧ ((((b0 : Int) - 240) * 64 + b1 - 128) * 64 + b2 - 128) * 64 + b3 - 128 ≤ 1114111) by omega)]
        simp
    · rw [if_neg (show ¬ (b0 / 32 = 6 ∧ (1 < m ∧ b1 / 64 = 2)) by omega), if_neg (show ¬ (b0 / 16 = 14 ∧ (1 < m ∧ b1 / 64 = 2) ∧ (2 < m ∧ b2 / 64 = 2)) by omega), if_neg (show ¬ (b0 / 8 = 30 ∧ (1 < m ∧ b1 / 64 = 2) ∧ (2 < m ∧ b2 / 64 = 2) ∧ (3 < m ∧ b3 / 64 = 2)) by omega), if_neg (show ¬ (192 ≤ (b0 : Int) ∧ (b0 : Int) < 224) by omega), if_neg (show ¬ (224 ≤ (b0 : Int) ∧ (b0 : Int) < 240) by omega), if_pos (show (240 ≤ (b0 : Int) ∧ (b0 : Int) < 248) by omega), if_neg (show ¬ (3 < (m : Int) ∧ 128 ≤ (b1 : Int) ∧ (b1 : Int) < 192 ∧ 128 ≤ (b2 : Int) ∧ (b2 : Int) < 192 ∧ 128 ≤ (b3 : Int) ∧ (b3 : Int) < 192 ∧ 65536 ≤ ((((b0 : Int) - 240) * 64 + b1 - 128) * 64 + b2 - 128) * 64 + b3 - 128 ∧ ((((b0 : Int) - 240) * 64 + b1 - 128) * 64 + b2 - 128) * 64 + b3 - 128 ≤ 1114111) by omega)]
      simp
  rw [if_neg (show ¬ (b0 / 32 = 6 ∧ (1 < m ∧ b1 / 64 = 2)) by omega), if_neg (show ¬ (b0 / 16 = 14 ∧ (1 < m ∧ b1 / 64 = 2) ∧ (2 < m ∧ b2 / 64 = 2)) by omega), if_neg (show ¬ (b0 / 8 = 30 ∧ (1 < m ∧ b1 / 64 = 2) ∧ (2 < m ∧ b2 / 64 = 2) ∧ (3 < m ∧ b3 / 64 = 2)) by omega), if_neg (show ¬ (192 ≤ (b0 : Int) ∧ (b0 : Int) < 224) by omega), if_neg (show ¬ (224 ≤ (b0 : Int) ∧ (b0 : Int) < 240) by omega), if_neg (show ¬ (240 ≤ (b0 : Int) ∧ (b0 : Int) < 248) by omega)]
  simp
/-- The character at a place, by the bytes; none: a byte of none. -/
def nextI (s : ByteArray) (t : Nat) : Option (Int × Int) := decI ((s.size - t : Nat) : Int) (bt s t) (bt s (t + 1 : Nat)) (bt s (t + 2 : Nat)) (bt s (t + 3 : Nat))
theorem dec_I (s : ByteArray) (t : Nat) : (((Utf8.decode s t).1 : Int), ((Utf8.decode s t).2 : Int)) = (nextI s t).getD (65533, 1) ∧ (nextI s t = none ↔ ((Utf8.decode s t).1 = 65533 ∧ (Utf8.decode s t).2 = 1)) := by
  rw [Lib.decode_at]
  unfold nextI
  rw [← get!_bt s t, ← get!_bt s (t + 1), ← get!_bt s (t + 2), ← get!_bt s (t + 3)]
  exact decN_I _ _ _ _ _ (UInt8.toNat_lt _) (UInt8.toNat_lt _) (UInt8.toNat_lt _) (UInt8.toNat_lt _)
theorem next_f (s : ByteArray) (t k : Nat) (ht : t < s.size) (hs : s.size ≤ 4611686018427387000) :
    glossatorref01_Next.f (k + 9) s t = some (match nextI s t with | some (r, n) => (r, n, true) | none => (0, 0, false)) := by
  have h0 := bt_range s t
  have h1 := bt_range s (t + 1 : Nat)
  have h2 := bt_range s (t + 2 : Nat)
  have h3 := bt_range s (t + 3 : Nat)
  have e1 : ((t : Int) + 1) = ((t + 1 : Nat) : Int) := by omega
  unfold glossatorref01_Next.f
  rw [if_neg (by omega), decide_eq_false (by omega), show k + 9 = (k + 8) + 1 from rfl]
  simp only [glossatorref01_Next.j0, Bool.false_eq_true, if_false]
  rw [if_pos (show (0 : Int) ≤ t by omega), if_pos (show (t : Int) < s.size by omega), w64 _ (by omega) (by omega)]
  have hj3 : ∀ (m : Nat) (sz n : Int), (sz = 2 ∨ sz = 3 ∨ sz = 4) → glossatorref01_Next.j3 (m + 1) s t sz n = if (t : Int) + sz > s.size then some (0, 0, false) else glossatorref01_Next.l0 m s t sz n 1 := fun m sz n hz => by
    simp only [glossatorref01_Next.j3]
    rw [w64 _ (by omega) (by omega)]
  unfold nextI decI
  by_cases c0 : bt s t < 128
  · rw [if_pos c0, if_pos c0, w32 _ (by omega) (by omega)]
  rw [if_neg c0, if_neg c0]
  have hl1 : ∀ (kk n : Int) (fuel : Nat), (1 : Int) < kk → t + 1 < s.size → 0 ≤ n ∧ n < 4194304 → glossatorref01_Next.l0 (fuel + 1) s t kk n 1 = if bt s (t + 1 : Nat) < 128 then some (0, 0, false) else if 192 ≤ bt s (t + 1 : Nat) then some (0, 0, false) else glossatorref01_Next.l0 fuel s t kk (n * 64 + bt s (t + 1 : Nat) - 128) 2 := fun kk n fuel h1 h2 h3 => next_l0 s t 1 kk n fuel hs h1 h2 h3
  have hl2 : ∀ (kk n : Int) (fuel : Nat), (2 : Int) < kk → t + 2 < s.size → 0 ≤ n ∧ n < 4194304 → glossatorref01_Next.l0 (fuel + 1) s t kk n 2 = if bt s (t + 2 : Nat) < 128 then some (0, 0, false) else if 192 ≤ bt s (t + 2 : Nat) then some (0, 0, false) else glossatorref01_Next.l0 fuel s t kk (n * 64 + bt s (t + 2 : Nat) - 128) 3 := fun kk n fuel h1 h2 h3 => next_l0 s t 2 kk n fuel hs h1 h2 h3
  have hl3 : ∀ (kk n : Int) (fuel : Nat), (3 : Int) < kk → t + 3 < s.size → 0 ≤ n ∧ n < 4194304 → glossatorref01_Next.l0 (fuel + 1) s t kk n 3 = if bt s (t + 3 : Nat) < 128 then some (0, 0, false) else if 192 ≤ bt s (t + 3 : Nat) then some (0, 0, false) else glossatorref01_Next.l0 fuel s t kk (n * 64 + bt s (t + 3 : Nat) - 128) 4 := fun kk n fuel h1 h2 h3 => next_l0 s t 3 kk n fuel hs h1 h2 h3
  by_cases c1 : 192 ≤ bt s t ∧ bt s t < 224
  · rw [if_pos c1, if_pos (show bt s t ≥ 192 by omega), decide_eq_true c1.2, show k + 8 = (k + 7) + 1 from rfl]
    simp only [glossatorref01_Next.j1, if_true]
    rw [w64 _ (by omega) (by omega), show k + 7 = (k + 6) + 1 from rfl, hj3 _ _ _ (by omega)]
    by_cases d : (t : Int) + 2 > s.size
    · rw [if_pos d, if_neg (by omega)]
    rw [if_neg d]
    rw [show k + 6 = (k + 5) + 1 from rfl, hl1 2 _ _ (by omega) (by omega) (by omega)]
    by_cases x1 : bt s (t + 1 : Nat) < 128
    · rw [if_pos x1, if_neg (by omega)]
    rw [if_neg x1]
    by_cases y1 : 192 ≤ bt s (t + 1 : Nat)
    · rw [if_pos y1, if_neg (by omega)]
    rw [if_neg y1]
    rw [show k + 5 = (k + 4) + 1 from rfl, next_end s t 2 _ _ (by omega) (by omega)]
    unfold least
    by_cases z : (1 < ((s.size - t : Nat) : Int) ∧ 128 ≤ bt s (t + 1 : Nat) ∧ bt s (t + 1 : Nat) < 192 ∧ 128 ≤ (bt s t - 192) * 64 + bt s (t + 1 : Nat) - 128)
    · rw [if_pos z, if_neg (by omega)]
    · rw [if_neg z, if_pos (by omega)]
  rw [if_neg c1]
  by_cases c2 : 224 ≤ bt s t ∧ bt s t < 240
  · rw [if_pos c2, if_pos (show bt s t ≥ 192 by omega), decide_eq_false (show ¬ bt s t < 224 by omega), show k + 8 = (k + 7) + 1 from rfl]
    simp only [glossatorref01_Next.j1, Bool.false_eq_true, if_false]
    rw [if_pos (show bt s t ≥ 224 by omega), decide_eq_true c2.2, show k + 7 = (k + 6) + 1 from rfl]
    simp only [glossatorref01_Next.j2, if_true]
    rw [w64 _ (by omega) (by omega), show k + 6 = (k + 5) + 1 from rfl, hj3 _ _ _ (by omega)]
    by_cases d : (t : Int) + 3 > s.size
    · rw [if_pos d, if_neg (by omega)]
    rw [if_neg d]
    rw [show k + 5 = (k + 4) + 1 from rfl, hl1 3 _ _ (by omega) (by omega) (by omega)]
    by_cases x1 : bt s (t + 1 : Nat) < 128
    · rw [if_pos x1, if_neg (by omega)]
    rw [if_neg x1]
    by_cases y1 : 192 ≤ bt s (t + 1 : Nat)
    · rw [if_pos y1, if_neg (by omega)]
    rw [if_neg y1]
    rw [show k + 4 = (k + 3) + 1 from rfl, hl2 3 _ _ (by omega) (by omega) (by omega)]
    by_cases x2 : bt s (t + 2 : Nat) < 128
    · rw [if_pos x2, if_neg (by omega)]
    rw [if_neg x2]
    by_cases y2 : 192 ≤ bt s (t + 2 : Nat)
    · rw [if_pos y2, if_neg (by omega)]
    rw [if_neg y2]
    rw [show k + 3 = (k + 2) + 1 from rfl, next_end s t 3 _ _ (by omega) (by omega)]
    unfold least
    by_cases z : (2 < ((s.size - t : Nat) : Int) ∧ 128 ≤ bt s (t + 1 : Nat) ∧ bt s (t + 1 : Nat) < 192 ∧ 128 ≤ bt s (t + 2 : Nat) ∧ bt s (t + 2 : Nat) < 192 ∧ 2048 ≤ ((bt s t - 224) * 64 + bt s (t + 1 : Nat) - 128) * 64 + bt s (t + 2 : Nat) - 128 ∧ ¬ (55296 ≤ ((bt s t - 224) * 64 + bt s (t + 1 : Nat) - 128) * 64 + bt s (t + 2 : Nat) - 128 ∧ ((bt s t - 224) * 64 + bt s (t + 1 : Nat) - 128) * 64 + bt s (t + 2 : Nat) - 128 < 57344))
    · rw [if_pos z, if_neg (by omega)]
    · rw [if_neg z, if_pos (by omega)]
  rw [if_neg c2]
  by_cases c3 : 240 ≤ bt s t ∧ bt s t < 248
  · rw [if_pos c3, if_pos (show bt s t ≥ 192 by omega), decide_eq_false (show ¬ bt s t < 224 by omega), show k + 8 = (k + 7) + 1 from rfl]
    simp only [glossatorref01_Next.j1, Bool.false_eq_true, if_false]
    rw [if_pos (show bt s t ≥ 224 by omega), decide_eq_false (show ¬ bt s t < 240 by omega), show k + 7 = (k + 6) + 1 from rfl]
    simp only [glossatorref01_Next.j2, Bool.false_eq_true, if_false]
    rw [if_pos (show bt s t ≥ 240 by omega), if_pos c3.2, w64 _ (by omega) (by omega), show k + 6 = (k + 5) + 1 from rfl, hj3 _ _ _ (by omega)]
    by_cases d : (t : Int) + 4 > s.size
    · rw [if_pos d, if_neg (by omega)]
    rw [if_neg d]
    rw [show k + 5 = (k + 4) + 1 from rfl, hl1 4 _ _ (by omega) (by omega) (by omega)]
    by_cases x1 : bt s (t + 1 : Nat) < 128
    · rw [if_pos x1, if_neg (by omega)]
    rw [if_neg x1]
    by_cases y1 : 192 ≤ bt s (t + 1 : Nat)
    · rw [if_pos y1, if_neg (by omega)]
    rw [if_neg y1]
    rw [show k + 4 = (k + 3) + 1 from rfl, hl2 4 _ _ (by omega) (by omega) (by omega)]
    by_cases x2 : bt s (t + 2 : Nat) < 128
    · rw [if_pos x2, if_neg (by omega)]
    rw [if_neg x2]
    by_cases y2 : 192 ≤ bt s (t + 2 : Nat)
    · rw [if_pos y2, if_neg (by omega)]
    rw [if_neg y2]
    rw [show k + 3 = (k + 2) + 1 from rfl, hl3 4 _ _ (by omega) (by omega) (by omega)]
    by_cases x3 : bt s (t + 3 : Nat) < 128
    · rw [if_pos x3, if_neg (by omega)]
    rw [if_neg x3]
    by_cases y3 : 192 ≤ bt s (t + 3 : Nat)
    · rw [if_pos y3, if_neg (by omega)]
    rw [if_neg y3]
    rw [show k + 2 = (k + 1) + 1 from rfl, next_end s t 4 _ _ (by omega) (by omega)]
    unfold least
    by_cases z : (3 < ((s.size - t : Nat) : Int) ∧ 128 ≤ bt s (t + 1 : Nat) ∧ bt s (t + 1 : Nat) < 192 ∧ 128 ≤ bt s (t + 2 : Nat) ∧ bt s (t + 2 : Nat) < 192 ∧ 128 ≤ bt s (t + 3 : Nat) ∧ bt s (t + 3 : Nat) < 192 ∧ 65536 ≤ (((bt s t - 240) * 64 + bt s (t + 1 : Nat) - 128) * 64 + bt s (t + 2 : Nat) - 128) * 64 + bt s (t + 3 : Nat) - 128 ∧ (((bt s t - 240) * 64 + bt s (t + 1 : Nat) - 128) * 64 + bt s (t + 2 : Nat) - 128) * 64 + bt s (t + 3 : Nat) - 128 ≤ 1114111)
    · rw [if_pos z, if_neg (by omega)]
    · rw [if_neg z, if_pos (by omega)]
  rw [if_neg c3]
  by_cases c4 : bt s t ≥ 192
  · rw [if_pos c4, decide_eq_false (show ¬ bt s t < 224 by omega), show k + 8 = (k + 7) + 1 from rfl]
    simp only [glossatorref01_Next.j1, Bool.false_eq_true, if_false]
    rw [if_pos (show bt s t ≥ 224 by omega), decide_eq_false (show ¬ bt s t < 240 by omega), show k + 7 = (k + 6) + 1 from rfl]
    simp only [glossatorref01_Next.j2, Bool.false_eq_true, if_false]
    rw [if_pos (show bt s t ≥ 240 by omega), if_neg (show ¬ bt s t < 248 by omega)]
  · rw [if_neg c4, show k + 8 = (k + 7) + 1 from rfl]
    simp only [glossatorref01_Next.j1, Bool.false_eq_true, if_false]
    rw [if_neg (show ¬ bt s t ≥ 224 by omega), show k + 7 = (k + 6) + 1 from rfl]
    simp only [glossatorref01_Next.j2, Bool.false_eq_true, if_false]
    rw [if_neg (show ¬ bt s t ≥ 240 by omega)]
end Go.Proofs.YtdnkjfcndjmdbaaDoor.P
