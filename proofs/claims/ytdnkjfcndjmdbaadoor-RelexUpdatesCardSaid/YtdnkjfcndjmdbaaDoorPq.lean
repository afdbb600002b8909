/- Plain: the words of the language. -/
import Derived.Test.YtdnkjfcndjmdbaaDoorPn
namespace Go.Proofs.YtdnkjfcndjmdbaaDoor.P
open Go.RowKit Go.Proofs.YtdnkjfcndjmdbaaDoorW.PrintWords Q G

/-! ### words -/
def wordsB : List (List UInt8) := [[108, 101, 116], [102, 110], [105, 102], [101, 108, 115, 101], [119, 104, 105, 108, 101], [114, 101, 116, 117, 114, 110], [116, 114, 117, 101], [102, 97, 108, 115, 101]]
theorem until_space : ∀ (l r : List UInt8), (∀ c ∈ l, c ≠ 32) → (l ++ [32]).isPrefixOf r = true → l = r.takeWhile (· != 32)
  | [], r, _, h => by
    cases r with
    | nil => simp at h
    | cons b r =>
      simp only [List.nil_append, List.isPrefixOf, Bool.and_true, beq_iff_eq] at h
      subst h; rfl
  | a :: l, r, hl, h => by
    cases r with
    | nil => simp at h
    | cons b r =>
      simp only [List.cons_append, List.isPrefixOf, Bool.and_eq_true, beq_iff_eq] at h
      obtain ⟨rfl, h⟩ := h
      have h1 : a ≠ 32 := hl a (by simp)
      rw [List.takeWhile_cons, if_pos (by simpa using h1), ← until_space l r (fun c hc => hl c (by simp [hc])) h]
theorem word_find : ∀ p : Nat, p ≤ 40 → (wordsL.drop p).head? = some 32 → p = 39 ∨ ((wordsL.drop p).tail.takeWhile (· != 32)) ∈ wordsB := by decide +kernel
theorem word_known : ∀ i : Nat, i < 8 → wordIx ⟨(wordsB.getD i []).toArray⟩ ≥ 0 ∧ ((wordsL.take (wordIx ⟨(wordsB.getD i []).toArray⟩).toNat).count 32) = i := by decide +kernel
theorem word_other (s : ByteArray) (hs : ∀ c ∈ s.data.toList, c ≠ 32) (h0 : s.data.toList ≠ []) (hn : s.data.toList ∉ wordsB) : ¬ 0 ≤ wordIx s := by
  intro h
  have hne : ¬ ∀ j, j ≤ wordsL.length → Lib.occAt wordsL (32 :: (s.data.toList ++ [32])) j = false := by
    intro hall
    have := Lib.index_none hall
    unfold wordIx at h
    omega
  have ⟨p, hp⟩ := Classical.not_forall.1 hne
  have ⟨hp1, hp2⟩ := Classical.not_imp.1 hp
  have hp3 : (32 :: (s.data.toList ++ [32])).isPrefixOf (wordsL.drop p) = true := by simpa [Lib.occAt] using hp2
  cases hd : wordsL.drop p with
  | nil => rw [hd] at hp3; simp at hp3
  | cons b r =>
    rw [hd] at hp3
    simp only [List.isPrefixOf, Bool.and_eq_true, beq_iff_eq] at hp3
    obtain ⟨rfl, hp4⟩ := hp3
    have e := until_space _ _ hs hp4
    rcases word_find p (by simpa [wordsL] using hp1) (by rw [hd]; rfl) with rfl | hm
    · have : r = [] := by have h39 : wordsL.drop 39 = [32] := by decide +kernel
                          rw [h39] at hd; exact (List.cons.inj hd).2.symm
      subst this
      exact h0 (by simpa using e)
    · rw [hd] at hm
      exact hn (by rw [e]; exact hm)

theorem beq_bytes (s : ByteArray) (l : List UInt8) : (s.toList = (⟨l.toArray⟩ : ByteArray).toList) ↔ s.data.toList = l := by
  rw [Lib.toList_data, Lib.toList_data]
def wordsA : List ByteArray := [⟨#[108, 101, 116]⟩, ⟨#[102, 110]⟩, ⟨#[105, 102]⟩, ⟨#[101, 108, 115, 101]⟩, ⟨#[119, 104, 105, 108, 101]⟩, ⟨#[114, 101, 116, 117, 114, 110]⟩, ⟨#[116, 114, 117, 101]⟩, ⟨#[102, 97, 108, 115, 101]⟩]
theorem wordsA_at : ∀ i : Nat, i < 8 → (rdOf ByteArray.empty wordsA (i : Int)) = ⟨(wordsB.getD i []).toArray⟩ := by
  intro i hi
  match i, hi with
  | 0, _ | 1, _ | 2, _ | 3, _ | 4, _ | 5, _ | 6, _ | 7, _ => rfl
theorem ok_nospace (s : ByteArray) (h : ∀ i, i < s.size → okAt s i = true) : ∀ c ∈ s.data.toList, c ≠ 32 := by
  intro c hc e
  obtain ⟨i, hi, rfl⟩ := List.getElem_of_mem hc
  have h1 := of_decide_eq_true (h i (by simpa using hi))
  rw [bt_list s i (by simpa using hi), e] at h1
  rw [show ((UInt8.toNat 32 : Nat) : Int) = 32 from rfl, show cls 32 = 1 by decide +kernel] at h1
  omega
end Go.Proofs.YtdnkjfcndjmdbaaDoor.P
