/- Plain: the numbers of the document (layer 13) are those of the program. -/
import Derived.Test.YtdnkjfcndjmdbaaDoorPr
import Derived.Test.YtdnkjfcndjmdbaaDoorQx20
namespace Go.Proofs.YtdnkjfcndjmdbaaDoor.R
open Go.RowKit Go.Proofs.YtdnkjfcndjmdbaaDoorW.PrintWords Go.Proofs.YtdnkjfcndjmdbaaDoorW.PrintMore Q G P

theorem spans12_l0 (s : ByteArray) (hs : s.size ≤ 40000) : ∀ d n : Nat, (toks s 0).length - n = d → n ≤ (toks s 0).length →
    Ev (fun k => glossatorref12_Spans.l0 k (toks s 0) 1099511627776 ((List.range n).map (spanF s)) (posT s n 0) n) (spansT s) := by
  intro d
  have hl := toks_len0 s
  induction d with
  | zero =>
    intro n hd hn
    obtain rfl : n = (toks s 0).length := by omega
    refine Ev.step (f := fun _ => some (spansT s)) (fun k => ?_) (Ev.now _)
    simp only [glossatorref12_Spans.l0]
    rw [if_neg (by omega)]; rfl
  | succ d ih =>
    intro n hd hn
    have hlt : n < (toks s 0).length := by omega
    have hw := (tok_w s n hlt).1
    have hp := pos_step s n hlt
    have hz := pos_size s (n + 1) (by omega)
    refine Ev.step (f := fun k => glossatorref12_Spans.l0 k (toks s 0) 1099511627776 ((List.range (n + 1)).map (spanF s)) (posT s (n + 1) 0) ((n + 1 : Nat) : Int)) (fun k => ?_) (ih (n + 1) (by omega) (by omega))
    simp only [glossatorref12_Spans.l0]
    rw [hw, if_pos (by omega), if_pos (by omega), if_neg (by omega), w64 ((1099511627776 : Int) - posT s n 0) (by omega) (by omega), if_pos (by omega), if_pos (by simp; omega), l2w2 _ _ (by omega), l2w1 n (by omega), List.range_succ, List.map_append]
    rfl
theorem spans12_ev (s : ByteArray) (hs : s.size ≤ 40000) : Ev (fun k => glossatorref12_Spans.f k (toks s 0)) (spansT s) :=
  Ev.congr (fun _ => rfl) (spans12_l0 s hs _ 0 rfl (Nat.zero_le _))
section
variable {s t : ByteArray} {a b c f : Nat}
theorem num_l2 (hs : s.size ≤ 40000) (ht : t.size ≤ 40000) (hF : Fit s t a b c) (i : Nat) (hi : i < (toks t 0).length) (hc : c ≤ posT t i 0) (r : Int × Int × Int)
    (hhit : ∀ k0, Hit s t b c i k0 → r = ((f : Int), (k0 : Int), (i : Int)))
    (hmiss : (∀ k0, ¬ Hit s t b c i k0) → Ev (fun k => glossatorref13_Numbers.l1 k (toks s 0) (toks t 0) (spansT s) (spansT t) f ((c : Int) - b) ((i + 1 : Nat) : Int) a b a c) r) :
    ∀ d n, (toks s 0).length - n = d → n ≤ (toks s 0).length → (∀ m, m < n → ¬ Hit s t b c i m) →
    Ev (fun k => glossatorref13_Numbers.l2 k (toks s 0) (toks t 0) (spansT s) (spansT t) f ((c : Int) - b) i n a b a c) r := by
  obtain ⟨h1, h2, h3, h4, h5, h6, h7⟩ := hF
  have hl := toks_len0 s
  have hl2 := toks_len0 t
  intro d
  induction d with
  | zero =>
    intro n hd hn hno
    obtain rfl : n = (toks s 0).length := by omega
    refine Ev.step (fun k => ?_) (hmiss (fun k0 hk => hno k0 hk.2.2.1 hk))
    simp only [glossatorref13_Numbers.l2]
    rw [if_neg (by omega), l2w1 i (by omega)]
  | succ d ih =>
    intro n hd hn hno
    have hlt : n < (toks s 0).length := by omega
    have hz := pos_size s n (by omega)
    have hzt := pos_size t i (by omega)
    have e1 : (rd_T39 (spansT s) n).f0 = (posT s n 0 : Int) := by rw [spansT_rd s n hlt]; rfl
    have e2 : (rd_T39 (spansT t) i).f0 = (posT t i 0 : Int) := by rw [spansT_rd t i hi]; rfl
    have hls := spansT_len s
    have hlt2 := spansT_len t
    have hgo : ¬ Hit s t b c i n → Ev (fun k => glossatorref13_Numbers.l2 k (toks s 0) (toks t 0) (spansT s) (spansT t) f ((c : Int) - b) i ((n + 1 : Nat) : Int) a b a c) r := fun hnh =>
      ih (n + 1) (by omega) (by omega) (fun m hm => if e : m = n then e ▸ hnh else hno m (by omega))
    have hcb : posT s n 0 ≤ 40000 ∧ c ≤ 40000 ∧ b ≤ 40000 := by omega
    by_cases c1 : b ≤ posT s n 0
    · by_cases c2 : posT s n 0 + c = posT t i 0 + b
      · rw [hhit n ⟨hi, hc, hlt, c1, c2⟩]
        refine Ev.step (f := fun _ => some ((f : Int), (n : Int), (i : Int))) (fun k => ?_) (Ev.now _)
        simp only [glossatorref13_Numbers.l2]
        rw [e1, e2, if_pos (by omega), if_pos (by omega), if_pos (by omega), if_pos (by omega), if_pos (by omega), if_pos (by omega), l2w3 _ c b hcb.1 hcb.2.1 hcb.2.2, if_pos (by omega)]
      · refine Ev.step (fun k => ?_) (hgo (fun hk => c2 hk.2.2.2.2))
        simp only [glossatorref13_Numbers.l2]
        rw [e1, e2, if_pos (by omega), if_pos (by omega), if_pos (by omega), if_pos (by omega), if_pos (by omega), if_pos (by omega), l2w3 _ c b hcb.1 hcb.2.1 hcb.2.2, if_neg (by omega), l2w1 n (by omega)]
    · refine Ev.step (fun k => ?_) (hgo (fun hk => c1 hk.2.2.2.1))
      simp only [glossatorref13_Numbers.l2]
      rw [e1, if_pos (by omega), if_pos (by omega), if_pos (by omega), if_neg (by omega), l2w1 n (by omega)]
theorem num_l1 (hs : s.size ≤ 40000) (ht : t.size ≤ 40000) (hF : Fit s t a b c) (K I : Nat) : ∀ d i, (toks t 0).length - i = d → i ≤ (toks t 0).length → Ends s t b c i K I →
    Ev (fun k => glossatorref13_Numbers.l1 k (toks s 0) (toks t 0) (spansT s) (spansT t) f ((c : Int) - b) i a b a c) ((f : Int), (K : Int), (I : Int)) := by
  have hl2 := toks_len0 t
  intro d
  induction d with
  | zero =>
    intro i hd hi hE
    obtain ⟨rfl, rfl⟩ := hE.last (by omega)
    refine Ev.step (f := fun _ => some ((f : Int), ((toks s 0).length : Int), ((toks t 0).length : Int))) (fun k => ?_) (Ev.now _)
    simp only [glossatorref13_Numbers.l1]
    rw [if_neg (by omega)]
  | succ d ih =>
    intro i hd hi hE
    have hit : i < (toks t 0).length := by omega
    have e2 : (rd_T39 (spansT t) i).f0 = (posT t i 0 : Int) := by rw [spansT_rd t i hit]; rfl
    have hlt2 := spansT_len t
    by_cases c1 : posT t i 0 < c
    · refine Ev.step (fun k => ?_) (ih (i + 1) (by omega) (by omega) (hE.next (fun k hk => by have := hk.2.1; omega)))
      simp only [glossatorref13_Numbers.l1]
      rw [e2, if_pos (by omega), if_pos (by omega), if_pos (by omega), if_pos (by omega), l2w1 i (by omega)]
    · refine Ev.step (fun k => ?_) (num_l2 (f := f) hs ht hF i hit (by omega) _ (fun k0 hk => ?_) (fun hno => ih (i + 1) (by omega) (by omega) (hE.next hno)) _ 0 rfl (Nat.zero_le _) (fun m hm => by omega))
      · simp only [glossatorref13_Numbers.l1]
        rw [e2, if_pos (by omega), if_pos (by omega), if_pos (by omega), if_neg (by omega)]
        rfl
      · obtain ⟨eI, eK⟩ := hE.here hk
        rw [eI, eK]
theorem num_l0 (hs : s.size ≤ 40000) (hcb : c ≤ 40000 ∧ b ≤ 40000) (hf : Fst s a f) (r : Int × Int × Int)
    (hr : Ev (fun k => glossatorref13_Numbers.l1 k (toks s 0) (toks t 0) (spansT s) (spansT t) f ((c : Int) - b) f a b a c) r) : ∀ d n, f - n = d → n ≤ f →
    Ev (fun k => glossatorref13_Numbers.l0 k (toks s 0) (toks t 0) (spansT s) (spansT t) n a b a c) r := by
  have hl := toks_len0 s
  have hls := spansT_len s
  intro d
  induction d with
  | zero =>
    intro n hd hn
    obtain rfl : n = f := by omega
    have ej : Ev (fun k => glossatorref13_Numbers.j1 k (toks s 0) (toks t 0) (spansT s) (spansT t) n a b a c) r := by
      refine Ev.step (fun k => ?_) hr
      simp only [glossatorref13_Numbers.j1]
      rw [w64 _ (by omega) (by omega)]
    by_cases hlt : n < (toks s 0).length
    · have hw := tok_w s n hlt
      have hz := pos_size s (n + 1) (by omega)
      have hlk := look_range s _ (posT_lt s n hlt).1
      have e1 : (rd_T39 (spansT s) n).f1 = (posT s (n + 1) 0 : Int) := by rw [spansT_rd s n hlt]; rfl
      refine Ev.step (fun k => ?_) ej
      simp only [glossatorref13_Numbers.l0]
      rw [e1, hw.2, if_pos (by omega), if_pos (by omega), if_pos (by omega), w64 _ (by omega) (by omega), if_neg (by have := hf.2.2 hlt; omega)]
    · refine Ev.step (fun k => ?_) ej
      simp only [glossatorref13_Numbers.l0]
      rw [if_neg (by omega)]
  | succ d ih =>
    intro n hd hn
    have hlt : n < (toks s 0).length := by have := hf.1; omega
    have hw := tok_w s n hlt
    have hz := pos_size s (n + 1) (by omega)
    have hlk := look_range s _ (posT_lt s n hlt).1
    have e1 : (rd_T39 (spansT s) n).f1 = (posT s (n + 1) 0 : Int) := by rw [spansT_rd s n hlt]; rfl
    refine Ev.step (fun k => ?_) (ih (n + 1) (by omega) (by omega))
    simp only [glossatorref13_Numbers.l0]
    rw [e1, hw.2, if_pos (by omega), if_pos (by omega), if_pos (by omega), w64 ((posT s (n + 1) 0 : Int) + _) (by omega) (by omega), if_pos (by have := hf.2.1 n (by omega); omega), l2w1 n (by omega)]
/-- The numbers of the document. -/
theorem num_ev (hs : s.size ≤ 40000) (ht : t.size ≤ 40000) (hF : Fit s t a b c) (hf : Fst s a f) (K I : Nat) (hE : Ends s t b c f K I) :
    Ev (fun k => glossatorref13_Numbers.f k (toks s 0) (toks t 0) a b a c) ((f : Int), (K : Int), (I : Int)) := by
  have hF' := hF
  obtain ⟨h1, h2, h3, h4, h5, h6, h7⟩ := hF
  have hs' := head_same s t a b c f hF' hf f (Nat.le_refl _)
  have h := num_l0 (t := t) hs (c := c) (b := b) (by omega) hf _ (num_l1 (f := f) hs ht hF' K I _ f rfl hs'.1 hE) _ 0 rfl (Nat.zero_le _)
  exact Ev.bind (spans12_ev s hs) (Ev.bind (spans12_ev t ht) h)
end
end Go.Proofs.YtdnkjfcndjmdbaaDoor.R
