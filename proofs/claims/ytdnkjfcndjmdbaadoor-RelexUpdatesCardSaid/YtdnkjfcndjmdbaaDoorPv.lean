/- Plain: the document's tokens of a text are the machine's. -/
import Derived.Test.YtdnkjfcndjmdbaaDoorPo
import Derived.Test.YtdnkjfcndjmdbaaDoorPw
import Derived.Test.YtdnkjfcndjmdbaaDoorGi
import Derived.Test.YtdnkjfcndjmdbaaDoorQx11
namespace Go.Proofs.YtdnkjfcndjmdbaaDoor.P
open Go.RowKit Go.Proofs.YtdnkjfcndjmdbaaDoorW.PrintWords Q G

theorem low_of (s : ByteArray) (p : Nat) (h : cls (bt s p) ≠ 0) : bt s p < 128 := by
  by_cases hb : bt s p < 128
  · exact hb
  · exact absurd (cls_high _ (by omega)) h
theorem one_ev (s : ByteArray) (p : Nat) (hp : p < s.size) (hs : s.size ≤ 4611686018427387000) : Ev (fun k => glossatorref12_one.f k s p) (kindE s p, ((scanE s p).2.1 : Int)) := by
  obtain ⟨n, hn, en⟩ := byte_nat s p
  obtain ⟨c, hc, ec⟩ := cls_nat s p
  obtain ⟨hbl, hle, hdi, h47, h34, _, _, _⟩ := bytes_in n hn
  rw [← en, ec] at hbl hle hdi h47 h34
  have hfc : c ≠ 0 → bt s p < 128 := fun h => low_of s p (by omega)
  have start : ∀ (f : Nat → Option (Int × Int)) (r : Int × Int), (∀ k, glossatorref12_one.f k s p = f k) → Ev f r → Ev (fun k => glossatorref12_one.f k s p) r := fun f r h1 h2 => Ev.congr h1 h2
  by_cases c12 : c = 1 ∨ c = 2
  · have hl := hfc (by omega)
    have hb := blank_l0 s hs _ p rfl (by omega)
    have e1 : S s 1 p = S s 1 (p + 1) := by rw [S_eq, if_pos hp, ec, (goes1 c hc).1 c12, if_neg (by omega)]
    have hst : goesF 0 (cls (bt s p)) = 1 := by rw [en]; exact (first_cls n (by omega)).1 (by rw [← en, ec]; omega)
    unfold kindE
    rw [scanE_low s p hp hl, hst, ← e1, if_neg (by show ¬ (S s 1 p).1 = 7; rw [hb.2]; decide)]
    show Ev _ (rd kinT (S s 1 p).1, ((S s 1 p).2 : Int))
    rw [hb.2, kin_vals.1]
    refine start _ _ (fun k => ?_) hb.1
    unfold glossatorref12_one.f
    rw [if_pos (by omega), if_pos (by omega), hbl, Option.bind_some, if_pos (decide_eq_true (by omega))]
  · have nb : ¬ (decide ((c : Int) = 1 ∨ (c : Int) = 2) = true) := by simp; omega
    by_cases c7 : c = 7
    · refine start (fun k => (glossatorref12_slash.f k s p).bind fun x => some (x.1, x.2)) _ (fun k => ?_) (Ev.bind (slash_ev s p hp hs (by rw [ec, c7]; rfl)) (Ev.now _))
      unfold glossatorref12_one.f
      rw [if_pos (by omega), if_pos (by omega), hbl, Option.bind_some, if_neg nb, if_pos (by rw [h47]; omega)]
    · have n7 : ¬ bt s p = 47 := by rw [h47]; omega
      by_cases c3 : c = 3
      · have hl := hfc (by omega)
        have hst : goesF 0 (cls (bt s p)) = 7 := by rw [en]; exact (first_cls n (by omega)).2.1 (by rw [← en, ec]; omega)
        have h7 := (S_7 s _ (p + 1) rfl (by omega)).1
        have h77 : (scanE s p).1 = 7 := by rw [scanE_low s p hp hl, hst]; exact h7
        have hw := word_token s p hp h77
        unfold kindE
        rw [if_pos h77]
        rw [scanE_low s p hp hl, hst] at hw ⊢
        have hloop := word_loop s hs p _ (p + 1) rfl (by omega) (by omega) hw
        refine start (fun k => glossatorref12_one.l1 k s p p) _ (fun k => ?_) (Ev.step (f := fun k => glossatorref12_one.l1 k s p ((p + 1 : Nat) : Int)) (fun k => ?_) hloop)
        · unfold glossatorref12_one.f
          rw [if_pos (by omega), if_pos (by omega), hbl, Option.bind_some, if_neg nb, if_neg n7, hle, Option.bind_some, if_pos (decide_eq_true (by omega))]
        · simp only [glossatorref12_one.l1]
          rw [if_pos (by omega), if_pos (by omega), hle, Option.bind_some, if_pos (decide_eq_true (by omega)), w64 _ (by omega) (by omega)]; rfl
      · have n3 : ¬ (decide ((c : Int) = 3) = true) := by simp; omega
        by_cases c4 : c = 4
        · have hl := hfc (by omega)
          have hb := digit_l2 s hs _ p rfl (by omega)
          have e1 : S s 8 p = S s 8 (p + 1) := by rw [S_eq, if_pos hp, ec, (goes8 c hc).1 c4, if_neg (by omega)]
          have hst : goesF 0 (cls (bt s p)) = 8 := by rw [en]; exact (first_cls n (by omega)).2.2.1 (by rw [← en, ec]; omega)
          unfold kindE
          rw [scanE_low s p hp hl, hst, ← e1, if_neg (by show ¬ (S s 8 p).1 = 7; rw [hb.2]; decide)]
          show Ev _ (rd kinT (S s 8 p).1, ((S s 8 p).2 : Int))
          rw [hb.2, kin_vals.2.2.2.1]
          refine start _ _ (fun k => ?_) hb.1
          unfold glossatorref12_one.f
          rw [if_pos (by omega), if_pos (by omega), hbl, Option.bind_some, if_neg nb, if_neg n7, hle, Option.bind_some, if_neg n3, hdi, Option.bind_some, if_pos (decide_eq_true (by omega))]
        · have n4 : ¬ (decide ((c : Int) = 4) = true) := by simp; omega
          by_cases c5 : c = 5
          · have hl := hfc (by omega)
            have hq := quoted_l0 s hs _ (p + 1) rfl (by omega)
            have hst : goesF 0 (cls (bt s p)) = 9 := by rw [en]; exact (first_cls n (by omega)).2.2.2.1 (by rw [← en, ec]; omega)
            unfold kindE
            rw [scanE_low s p hp hl, hst, if_neg (by show ¬ (S s 9 (p + 1)).1 = 7; exact hq.2)]
            refine start (fun k => (glossatorref12_quoted.l0 k s ((p + 1 : Nat) : Int)).bind fun x => some (x.1, x.2)) _ (fun k => ?_) (Ev.bind hq.1 (Ev.now _))
            unfold glossatorref12_one.f glossatorref12_quoted.f
            rw [if_pos (by omega), if_pos (by omega), hbl, Option.bind_some, if_neg nb, if_neg n7, hle, Option.bind_some, if_neg n3, hdi, Option.bind_some, if_neg n4, if_pos (by rw [h34]; omega), w64 _ (by omega) (by omega)]; rfl
          · refine start (fun k => (glossatorref12_sign.f k s p).bind fun x => some (x.1, x.2)) _ (fun k => ?_) (Ev.bind (sign_ev s p hp hs (by rw [ec]; omega)) (Ev.now _))
            unfold glossatorref12_one.f
            rw [if_pos (by omega), if_pos (by omega), hbl, Option.bind_some, if_neg nb, if_neg n7, hle, Option.bind_some, if_neg n3, hdi, Option.bind_some, if_neg n4, if_neg (by rw [h34]; omega)]
theorem all_l0 (s : ByteArray) (hs : s.size ≤ 40000) : ∀ d p (xs : List S23), s.size - p = d → p ≤ s.size → xs.length ≤ p → Ev (fun k => glossatorref12_All.l0 k s xs p) (xs ++ toks s p) := by
  intro d
  induction d using Nat.strongRecOn with
  | ind d ih =>
    intro p xs hd hp hx
    rw [toks_eq]
    by_cases h : p < s.size
    · have he := scanE_end s p h
      have ho := one_ev s p h (by omega)
      obtain ⟨r, hr, hsc⟩ := scan_ev s p (by omega)
      have hf : dfa_Scan.f s p = some (kindE s p, ((scanE s p).2.1 : Int) - p, lookE s p, true) := by
        unfold dfa_Scan.f; rw [if_pos (by omega), if_pos (by omega), if_pos (by omega)]; rfl
      rw [hf] at hr
      obtain rfl := Option.some.inj hr
      have hi := ih (s.size - (scanE s p).2.1) (by omega) (scanE s p).2.1 (xs ++ [tokAt s p]) rfl he.2 (by simp; omega)
      rw [if_pos h]
      refine Ev.step (f := fun k => (glossatorref12_one.f k s (p : Int)).bind fun a => (glossatorref11_Scan.f k s (p : Int)).bind fun b => if xs.length < 5864062014805 then glossatorref12_All.l0 k s (xs ++ [(⟨a.1, wrap64 (a.2 - p), b.2.2.1⟩ : S23)]) a.2 else none) (fun k => ?_) (Ev.bind ho (Ev.bind hsc ?_))
      · simp only [glossatorref12_All.l0]
        rw [if_pos (by omega)]
      · refine Ev.congr (f := fun k => glossatorref12_All.l0 k s (xs ++ [tokAt s p]) (((scanE s p).2.1 : Nat) : Int)) (fun k => ?_) (by rw [List.append_assoc] at hi; exact hi)
        rw [if_pos (by omega), w64 _ (by omega) (by omega)]
        rfl
    · rw [if_neg h, List.append_nil]
      refine Ev.step (f := fun _ => some xs) (fun k => ?_) (Ev.now _)
      simp only [glossatorref12_All.l0]
      rw [if_neg (by omega)]
theorem all_ev (s : ByteArray) (hs : s.size ≤ 40000) : Ev (fun k => glossatorref12_All.f k s) (toks s 0) := Ev.congr (fun _ => rfl) (all_l0 s hs _ 0 [] rfl (Nat.zero_le _) (Nat.zero_le _))

theorem toks_len1 (s : ByteArray) : (toks s 0).length ≤ s.size := by have := toks_len s (s.size + 1) 0; simpa [toks] using this
end Go.Proofs.YtdnkjfcndjmdbaaDoor.P
