/- Plain: a text's tokens as a list: where each begins; the spans; what is left of a text. -/
import Derived.Test.YtdnkjfcndjmdbaaDoorPl
import Derived.Test.YtdnkjfcndjmdbaaDoorGj
import Derived.Test.YtdnkjfcndjmdbaaDoorQx13
import Derived.Test.YtdnkjfcndjmdbaaDoorQx14
namespace Go.Proofs.YtdnkjfcndjmdbaaDoor.P
open Go.RowKit Go.Proofs.YtdnkjfcndjmdbaaDoorW.PrintWords Go.Proofs.YtdnkjfcndjmdbaaDoorW.PrintMore Q G

def posT (s : ByteArray) : Nat → Nat → Nat
  | 0, p => p
  | n + 1, p => if p < s.size then posT s n (scanE s p).2.1 else p
theorem toks_drop (s : ByteArray) : ∀ n p, p ≤ s.size → n ≤ (toks s p).length → (toks s p).drop n = toks s (posT s n p) ∧ posT s n p ≤ s.size ∧ p ≤ posT s n p
  | 0, p, hp, _ => ⟨rfl, hp, Nat.le_refl _⟩
  | n + 1, p, hp, hn => by
    rw [toks_eq] at hn ⊢
    by_cases h : p < s.size
    · rw [if_pos h] at hn ⊢
      have he := scanE_end s p h
      have ih := toks_drop s n (scanE s p).2.1 he.2 (by simpa using hn)
      unfold posT
      rw [if_pos h]
      exact ⟨ih.1, ih.2.1, by omega⟩
    · rw [if_neg h] at hn
      simp at hn
theorem posT_lt (s : ByteArray) (n : Nat) (hn : n < (toks s 0).length) : posT s n 0 < s.size ∧ rd_T23 (toks s 0) n = tokAt s (posT s n 0) := by
  have h := toks_drop s n 0 (Nat.zero_le _) (by omega)
  have hd : (toks s 0).drop n = (toks s 0)[n] :: (toks s 0).drop (n + 1) := List.drop_eq_getElem_cons hn
  rw [h.1, toks_eq] at hd
  by_cases hp : posT s n 0 < s.size
  · rw [if_pos hp] at hd
    refine ⟨hp, ?_⟩
    unfold rd_T23
    rw [Int.toNat_natCast, List.getD_eq_getElem?_getD, List.getElem?_eq_getElem hn]
    exact (List.cons.inj hd).1.symm
  · rw [if_neg hp] at hd
    cases hd
theorem posT_succ (s : ByteArray) : ∀ n p, n < (toks s p).length → posT s (n + 1) p = (scanE s (posT s n p)).2.1
  | 0, p, hn => by
    rw [toks_eq] at hn
    by_cases h : p < s.size
    · simp [posT, h]
    · rw [if_neg h] at hn; simp at hn
  | n + 1, p, hn => by
    rw [toks_eq] at hn
    by_cases h : p < s.size
    · rw [if_pos h] at hn
      have ih := posT_succ s n (scanE s p).2.1 (by simpa using hn)
      have e1 : posT s (n + 1 + 1) p = posT s (n + 1) (scanE s p).2.1 := by conv => lhs; unfold posT; rw [if_pos h]
      have e2 : posT s (n + 1) p = posT s n (scanE s p).2.1 := by conv => lhs; unfold posT; rw [if_pos h]
      rw [e1, e2, ih]
    · rw [if_neg h] at hn; simp at hn
theorem posT_end (s : ByteArray) : ∀ d p, s.size - p = d → p ≤ s.size → posT s (toks s p).length p = s.size := by
  intro d
  induction d using Nat.strongRecOn with
  | ind d ih =>
    intro p hd hp
    rw [toks_eq]
    by_cases h : p < s.size
    · rw [if_pos h]
      have he := scanE_end s p h
      have := ih (s.size - (scanE s p).2.1) (by omega) (scanE s p).2.1 rfl he.2
      simp only [List.length_cons]
      unfold posT
      rw [if_pos h]
      exact this
    · rw [if_neg h]
      simp only [List.length_nil, posT]
      omega

def spanF (s : ByteArray) (i : Nat) : S39 := ⟨posT s i 0, posT s (i + 1) 0⟩
def spansT (s : ByteArray) : List S39 := (List.range (toks s 0).length).map (spanF s)
theorem spansT_rd (s : ByteArray) (n : Nat) (hn : n < (toks s 0).length) : rd_T39 (spansT s) n = spanF s n := by
  unfold rd_T39 spansT
  rw [Int.toNat_natCast, List.getD_eq_getElem?_getD, List.getElem?_map, List.getElem?_range hn]
  rfl
theorem spansT_len (s : ByteArray) : (spansT s).length = (toks s 0).length := by simp [spansT]
theorem toks_len0 (s : ByteArray) : (toks s 0).length ≤ s.size := by have := toks_len s (s.size + 1) 0; simpa [toks] using this
theorem spans_l0 (s : ByteArray) (hs : s.size ≤ 40000) : ∀ d n : Nat, (toks s 0).length - n = d → n ≤ (toks s 0).length →
    Ev (fun k => lex_Spans.l0 k ((List.range n).map (spanF s)) (posT s n 0) (toks s 0) ((toks s 0).length : Int) n) (spansT s) := by
  intro d
  have hl := toks_len0 s
  induction d with
  | zero =>
    intro n hd hn
    obtain rfl : n = (toks s 0).length := by omega
    refine Ev.step (f := fun _ => some (spansT s)) (fun k => ?_) (Ev.now _)
    simp only [lex_Spans.l0]
    rw [if_neg (by omega)]; rfl
  | succ d ih =>
    intro n hd hn
    have hlt : n < (toks s 0).length := by omega
    have hp := posT_lt s n hlt
    have he := scanE_end s _ hp.1
    have h1 := posT_succ s n 0 hlt
    have ew : mn (wrap64 ((posT s n 0 : Int) + mn (mx (rd_T23 (toks s 0) n).f1 0) 1099511627776)) 1099511627776 = (posT s (n + 1) 0 : Int) := by
      rw [hp.2, h1]
      simp only [tokAt]
      have e1 : mx (((scanE s (posT s n 0)).2.1 : Int) - (posT s n 0 : Nat)) 0 = ((scanE s (posT s n 0)).2.1 : Int) - (posT s n 0 : Nat) := by unfold mx; rw [if_neg (by omega)]
      rw [e1]
      have e2 : mn (((scanE s (posT s n 0)).2.1 : Int) - (posT s n 0 : Nat)) 1099511627776 = ((scanE s (posT s n 0)).2.1 : Int) - (posT s n 0 : Nat) := by unfold mn; rw [if_neg (by omega)]
      rw [e2, w64 _ (by omega) (by omega)]
      unfold mn; rw [if_neg (by omega)]; omega
    refine Ev.step (f := fun k => lex_Spans.l0 k ((List.range (n + 1)).map (spanF s)) (posT s (n + 1) 0) (toks s 0) ((toks s 0).length : Int) ((n + 1 : Nat) : Int)) (fun k => ?_) (ih (n + 1) (by omega) (by omega))
    simp only [lex_Spans.l0]
    rw [if_pos (by omega), if_pos (by omega), if_pos (by omega), if_pos (by simp; omega), ew, w64 _ (by omega) (by omega), List.range_succ, List.map_append]
    rfl
theorem spans_ev (s : ByteArray) (hs : s.size ≤ 40000) : Ev (fun k => lex_Spans.f k (toks s 0)) (spansT s) :=
  Ev.congr (fun _ => rfl) (spans_l0 s hs _ 0 rfl (Nat.zero_le _))

theorem awake_ev : Ev (fun k => glossatorlaw12_awake.f k) true := Ev.of (fun k => glossatorlaw12_awake.mono k) (k := 30) (by decide +kernel)

theorem same_l0 (l : List S23) (hl : l.length ≤ 40000) : ∀ d n : Nat, l.length - n = d → n ≤ l.length → Ev (fun k => glossatorref12_Same.l0 k l l n) true := by
  intro d
  induction d with
  | zero =>
    intro n hd hn
    refine Ev.step (f := fun _ => some true) (fun k => ?_) (Ev.now _)
    simp only [glossatorref12_Same.l0]
    rw [if_neg (by omega)]
  | succ d ih =>
    intro n hd hn
    refine Ev.step (f := fun k => glossatorref12_Same.l0 k l l ((n + 1 : Nat) : Int)) (fun k => ?_) (ih (n + 1) (by omega) (by omega))
    simp only [glossatorref12_Same.l0]
    rw [if_pos (by omega), if_pos (by omega), if_pos (by omega), if_neg (by simp), w64 _ (by omega) (by omega)]
    rfl
theorem same_ev (l : List S23) (hl : l.length ≤ 40000) : Ev (fun k => glossatorref12_Same.f k l l) true :=
  Ev.congr (fun k => by unfold glossatorref12_Same.f; rw [if_pos rfl]; rfl) (same_l0 l hl _ 0 rfl (Nat.zero_le _))

theorem tokAt_rest (s : ByteArray) (a t : Nat) (ha : a ≤ s.size) (ht : a + t < s.size) : tokAt (s.extract a s.size) t = tokAt s (a + t) := by
  obtain ⟨h1, h2, h3⟩ := tok_rest s a t ha ht
  have e1 := scanE_end s (a + t) ht
  unfold tokAt
  rw [h1, h3]
  congr 1
  omega
theorem toks_rest (s : ByteArray) (a : Nat) (ha : a ≤ s.size) : ∀ d t, s.size - (a + t) = d → toks (s.extract a s.size) t = toks s (a + t) := by
  intro d
  induction d using Nat.strongRecOn with
  | ind d ih =>
    intro t hd
    rw [toks_eq, toks_eq s, size_rest]
    by_cases h : a + t < s.size
    · rw [if_pos (by omega), if_pos h, tokAt_rest s a t ha h]
      have h2 := (tok_rest s a t ha h).2.1
      have e1 := scanE_end s (a + t) h
      have e2 := scanE_end (s.extract a s.size) t (by rw [size_rest]; omega)
      rw [ih (s.size - (a + (scanE (s.extract a s.size) t).2.1)) (by omega) _ rfl]
      congr 2; omega
    · rw [if_neg (by omega), if_neg h]

/-- int(uint64(n) % uint64(len)), of a length that is small. -/
theorem modT (a : Int) (m : Nat) (hm : 0 < m) (hm2 : m ≤ 40000) : ∃ n : Nat, n < m ∧ wrap64 (Int.tmod (IntKind.u64.wrap a) (IntKind.u64.wrap (m : Int))) = (n : Int) := by
  have e1 : IntKind.u64.wrap (m : Int) = (m : Int) := by unfold IntKind.wrap; simp [IntKind.bits, IntKind.signed]; omega
  have e2 : 0 ≤ IntKind.u64.wrap a := by unfold IntKind.wrap; simp [IntKind.bits, IntKind.signed]; omega
  rw [e1]
  obtain ⟨x, hx⟩ := Int.eq_ofNat_of_zero_le e2
  rw [hx]
  refine ⟨x % m, Nat.mod_lt _ hm, ?_⟩
  have e3 : Int.tmod (x : Int) (m : Int) = ((x % m : Nat) : Int) := rfl
  rw [e3]
  have := Nat.mod_lt x hm
  exact w64 _ (by omega) (by omega)
theorem u64_len (m : Nat) (hm : 0 < m) (hm2 : m ≤ 40000) : ¬ IntKind.u64.wrap (m : Int) = 0 := by
  unfold IntKind.wrap; simp [IntKind.bits, IntKind.signed]; omega
theorem lexAll_f (s : ByteArray) (hs : s.size ≤ 40000) : lex_All.f s = some (toks s 0) := by unfold lex_All.f; rw [if_pos (by omega)]
end Go.Proofs.YtdnkjfcndjmdbaaDoor.P
