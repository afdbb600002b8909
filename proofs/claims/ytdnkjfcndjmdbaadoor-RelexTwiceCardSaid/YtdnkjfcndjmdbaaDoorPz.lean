/- Plain: a text's tokens as a list: where each begins; the spans; what is left of a text. -/
import Derived.Test.YtdnkjfcndjmdbaaDoorPl
import Derived.Test.YtdnkjfcndjmdbaaDoorGi
namespace Go.Proofs.YtdnkjfcndjmdbaaDoor.P
open Go.RowKit Go.Proofs.YtdnkjfcndjmdbaaDoorW.PrintWords Go.Proofs.YtdnkjfcndjmdbaaDoorW.PrintMore Q G

def posT (s : ByteArray) : Nat → Nat → Nat
  | 0, p => p
  | n + 1, p => if p < s.size then posT s n (scanE s p).2.1 else p
theorem toks_drop (s : ByteArray) : ∀ n p, p ≤ s.size → n ≤ (toks s p).length → (toks s p).drop n = toks s (posT s n p) ∧ posT s n p ≤ s.size ∧ p ≤ posT s n p
  | 0, p, hp, _ => ⟨rfl, hp, Nat.le_refl _⟩
  | n + 1, p, hp, hn => by
    rw [toks_eq] at hn ⊢
    by_cases h : p < s.size
    · rw [if_pos h] at hn ⊢
      have he := scanE_end s p h
      have ih := toks_drop s n (scanE s p).2.1 he.2 (by simpa using hn)
      unfold posT
      rw [if_pos h]
      exact ⟨ih.1, ih.2.1, by omega⟩
    · rw [if_neg h] at hn
      simp at hn
theorem posT_lt (s : ByteArray) (n : Nat) (hn : n < (toks s 0).length) : posT s n 0 < s.size ∧ rd_T23 (toks s 0) n = tokAt s (posT s n 0) := by
  have h := toks_drop s n 0 (Nat.zero_le _) (by omega)
  have hd : (toks s 0).drop n = (toks s 0)[n] :: (toks s 0).drop (n + 1) := List.drop_eq_getElem_cons hn
  rw [h.1, toks_eq] at hd
  by_cases hp : posT s n 0 < s.size
  · rw [if_pos hp] at hd
    refine ⟨hp, ?_⟩
    unfold rd_T23
    rw [Int.toNat_natCast, List.getD_eq_getElem?_getD, List.getElem?_eq_getElem hn]
    exact (List.cons.inj hd).1.symm
  · rw [if_neg hp] at hd
    cases hd
theorem posT_succ (s : ByteArray) : ∀ n p, n < (toks s p).length → posT s (n + 1) p = (scanE s (posT s n p)).2.1
  | 0, p, hn => by
    rw [toks_eq] at hn
    by_cases h : p < s.size
    · simp [posT, h]
    · rw [if_neg h] at hn; simp at hn
  | n + 1, p, hn => by
    rw [toks_eq] at hn
    by_cases h : p < s.size
    · rw [if_pos h] at hn
      have ih := posT_succ s n (scanE s p).2.1 (by simpa using hn)
      have e1 : posT s (n + 1 + 1) p = posT s (n + 1) (scanE s p).2.1 := by conv => lhs; unfold posT; rw [if_pos h]
      have e2 : posT s (n + 1) p = posT s n (scanE s p).2.1 := by conv => lhs; unfold posT; rw [if_pos h]
      rw [e1, e2, ih]
    · rw [if_neg h] at hn; simp at hn
theorem posT_end (s : ByteArray) : ∀ d p, s.size - p = d → p ≤ s.size → posT s (toks s p).length p = s.size := by
  intro d
  induction d using Nat.strongRecOn with
  | ind d ih =>
    intro p hd hp
    rw [toks_eq]
    by_cases h : p < s.size
    · rw [if_pos h]
      have he := scanE_end s p h
      have := ih (s.size - (scanE s p).2.1) (by omega) (scanE s p).2.1 rfl he.2
      simp only [List.length_cons]
      unfold posT
      rw [if_pos h]
      exact this
    · rw [if_neg h]
      simp only [List.length_nil, posT]
      omega

def spanF (s : ByteArray) (i : Nat) : S39 := ⟨posT s i 0, posT s (i + 1) 0⟩
def spansT (s : ByteArray) : List S39 := (List.range (toks s 0).length).map (spanF s)
theorem spansT_rd (s : ByteArray) (n : Nat) (hn : n < (toks s 0).length) : rd_T39 (spansT s) n = spanF s n := by
  unfold rd_T39 spansT
  rw [Int.toNat_natCast, List.getD_eq_getElem?_getD, List.getElem?_map, List.getElem?_range hn]
  rfl
theorem spansT_len (s : ByteArray) : (spansT s).length = (toks s 0).length := by simp [spansT]
theorem toks_len0 (s : ByteArray) : (toks s 0).length ≤ s.size := by have := toks_len s (s.size + 1) 0; simpa [toks] using this
theorem tokAt_rest (s : ByteArray) (a t : Nat) (ha : a ≤ s.size) (ht : a + t < s.size) : tokAt (s.extract a s.size) t = tokAt s (a + t) := by
  obtain ⟨h1, h2, h3⟩ := tok_rest s a t ha ht
  have e1 := scanE_end s (a + t) ht
  unfold tokAt
  rw [h1, h3]
  congr 1
  omega
theorem toks_rest (s : ByteArray) (a : Nat) (ha : a ≤ s.size) : ∀ d t, s.size - (a + t) = d → toks (s.extract a s.size) t = toks s (a + t) := by
  intro d
  induction d using Nat.strongRecOn with
  | ind d ih =>
    intro t hd
    rw [toks_eq, toks_eq s, size_rest]
    by_cases h : a + t < s.size
    · rw [if_pos (by omega), if_pos h, tokAt_rest s a t ha h]
      have h2 := (tok_rest s a t ha h).2.1
      have e1 := scanE_end s (a + t) h
      have e2 := scanE_end (s.extract a s.size) t (by rw [size_rest]; omega)
      rw [ih (s.size - (a + (scanE (s.extract a s.size) t).2.1)) (by omega) _ rfl]
      congr 2; omega
    · rw [if_neg (by omega), if_neg h]

/-- int(uint64(n) % uint64(len)), of a length that is small. -/
theorem modT (a : Int) (m : Nat) (hm : 0 < m) (hm2 : m ≤ 40000) : ∃ n : Nat, n < m ∧ wrap64 (Int.tmod (IntKind.u64.wrap a) (IntKind.u64.wrap (m : Int))) = (n : Int) := by
  have e1 : IntKind.u64.wrap (m : Int) = (m : Int) := by unfold IntKind.wrap; simp [IntKind.bits, IntKind.signed]; omega
  have e2 : 0 ≤ IntKind.u64.wrap a := by unfold IntKind.wrap; simp [IntKind.bits, IntKind.signed]; omega
  rw [e1]
  obtain ⟨x, hx⟩ := Int.eq_ofNat_of_zero_le e2
  rw [hx]
  refine ⟨x % m, Nat.mod_lt _ hm, ?_⟩
  have e3 : Int.tmod (x : Int) (m : Int) = ((x % m : Nat) : Int) := rfl
  rw [e3]
  have := Nat.mod_lt x hm
  exact w64 _ (by omega) (by omega)
theorem u64_len (m : Nat) (hm : 0 < m) (hm2 : m ≤ 40000) : ¬ IntKind.u64.wrap (m : Int) = 0 := by
  unfold IntKind.wrap; simp [IntKind.bits, IntKind.signed]; omega
end Go.Proofs.YtdnkjfcndjmdbaaDoor.P
