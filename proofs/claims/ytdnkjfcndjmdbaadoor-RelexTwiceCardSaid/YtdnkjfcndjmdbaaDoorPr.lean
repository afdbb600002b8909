/- Plain: the tokens behind an edit (relex.Update) are those of the text, cut anew; where they begin and end to be the same. -/
import Derived.Test.YtdnkjfcndjmdbaaDoorPz
import Derived.Test.YtdnkjfcndjmdbaaDoorQx19
namespace Go.Proofs.YtdnkjfcndjmdbaaDoor.R
open Go.RowKit Go.Proofs.YtdnkjfcndjmdbaaDoorW.PrintWords Go.Proofs.YtdnkjfcndjmdbaaDoorW.PrintMore Q G P

/-! ### where tokens begin -/
theorem pos_step (s : ByteArray) (n : Nat) (hn : n < (toks s 0).length) : posT s n 0 < posT s (n + 1) 0 := by
  rw [posT_succ s n 0 hn]
  exact (scanE_end s _ (posT_lt s n hn).1).1
theorem pos_mono (s : ByteArray) : ∀ m n, n < m → m ≤ (toks s 0).length → posT s n 0 < posT s m 0 := by
  intro m
  induction m with
  | zero => intro n h; omega
  | succ m ih =>
    intro n h hm
    have h1 := pos_step s m (by omega)
    by_cases e : n = m
    · subst e; exact h1
    · have := ih n (by omega) (by omega); omega
theorem pos_size (s : ByteArray) (n : Nat) (hn : n ≤ (toks s 0).length) : posT s n 0 ≤ s.size := (toks_drop s n 0 (Nat.zero_le _) hn).2.1
theorem pos_N (s : ByteArray) : posT s (toks s 0).length 0 = s.size := posT_end s _ 0 rfl (Nat.zero_le _)
theorem pos_inj (s : ByteArray) (n m : Nat) (hn : n ≤ (toks s 0).length) (hm : m ≤ (toks s 0).length) (h : posT s n 0 = posT s m 0) : n = m := by
  rcases Nat.lt_trichotomy n m with h1 | h1 | h1
  · have := pos_mono s m n h1 hm; omega
  · exact h1
  · have := pos_mono s n m h1 hn; omega
theorem rd_get' (l : List S23) (n : Nat) (h : n < l.length) : rd_T23 l n = l[n] := by
  simp [rd_T23, List.getD, List.getElem?_eq_getElem h]
theorem take_tok (s : ByteArray) (n : Nat) (hn : n < (toks s 0).length) : (toks s 0).take (n + 1) = (toks s 0).take n ++ [tokAt s (posT s n 0)] := by
  rw [List.take_succ_eq_append_getElem hn, ← rd_get' _ n hn, (posT_lt s n hn).2]
theorem tok_w (s : ByteArray) (n : Nat) (hn : n < (toks s 0).length) : (rd_T23 (toks s 0) n).f1 = (posT s (n + 1) 0 : Int) - posT s n 0 ∧ (rd_T23 (toks s 0) n).f2 = lookE s (posT s n 0) := by
  rw [(posT_lt s n hn).2, posT_succ s n 0 hn]
  exact ⟨rfl, rfl⟩

/-! ### an edit -/
/-- Text t is text s with the bytes from a on to b replaced, up to c now. -/
def Fit (s t : ByteArray) (a b c : Nat) : Prop :=
  a ≤ b ∧ b ≤ s.size ∧ a ≤ c ∧ c ≤ t.size ∧ s.size + c = t.size + b ∧ (∀ j : Nat, j < a → bt t j = bt s j) ∧ t.extract c t.size = s.extract b s.size
/-- The tokens that are ahead of the edit, with what was looked at. -/
def Fst (s : ByteArray) (a f : Nat) : Prop :=
  f ≤ (toks s 0).length ∧ (∀ n, n < f → (posT s (n + 1) 0 : Int) + lookE s (posT s n 0) ≤ a) ∧ (f < (toks s 0).length → ¬ (posT s (f + 1) 0 : Int) + lookE s (posT s f 0) ≤ a)
theorem fst_ex (s : ByteArray) (a : Nat) : ∃ f, Fst s a f := by
  have key : ∀ d n, (toks s 0).length - n = d → n ≤ (toks s 0).length → (∀ m, m < n → (posT s (m + 1) 0 : Int) + lookE s (posT s m 0) ≤ a) → ∃ f, Fst s a f := by
    intro d
    induction d with
    | zero => intro n hd hn h; exact ⟨n, hn, h, fun h => by omega⟩
    | succ d ih =>
      intro n hd hn h
      by_cases hc : (posT s (n + 1) 0 : Int) + lookE s (posT s n 0) ≤ a
      · exact ih (n + 1) (by omega) (by omega) (fun m hm => if e : m = n then e ▸ hc else h m (by omega))
      · exact ⟨n, hn, h, fun _ => hc⟩
  exact key _ 0 rfl (Nat.zero_le _) (fun m hm => by omega)
theorem head_same (s t : ByteArray) (a b c f : Nat) (hF : Fit s t a b c) (hf : Fst s a f) : ∀ n, n ≤ f → n ≤ (toks t 0).length ∧ posT t n 0 = posT s n 0 ∧ (toks t 0).take n = (toks s 0).take n := by
  obtain ⟨h1, h2, h3, h4, h5, h6, h7⟩ := hF
  intro n
  induction n with
  | zero => intro _; exact ⟨Nat.zero_le _, rfl, by simp⟩
  | succ n ih =>
    intro hn
    obtain ⟨i1, i2, i3⟩ := ih (by omega)
    have hnS : n < (toks s 0).length := by have := hf.1; omega
    have hp := posT_lt s n hnS
    have hok := hf.2.1 n (by omega)
    rw [posT_succ s n 0 hnS] at hok
    obtain ⟨l1, l2, l3, l4⟩ := tok_local s t (posT s n 0) (posT s n 0) hp.1 (by omega) (fun j hj => ⟨by omega, h6 _ (by omega)⟩)
    have hnT : n < (toks t 0).length := by
      rcases Nat.lt_or_ge n (toks t 0).length with h | h
      · exact h
      · have e : n = (toks t 0).length := by omega
        have := pos_N t
        rw [← e, i2] at this
        omega
    have e1 : (scanE t (posT s n 0)).2.1 = (scanE s (posT s n 0)).2.1 := by omega
    have et : tokAt t (posT s n 0) = tokAt s (posT s n 0) := by unfold tokAt; rw [l2, l4, e1]
    refine ⟨hnT, ?_, ?_⟩
    · rw [posT_succ t n 0 hnT, posT_succ s n 0 hnS, i2, e1]
    · rw [take_tok t n hnT, take_tok s n hnS, i2, i3, et]
/-- Behind the edit both texts have the same tokens. -/
theorem tail_same (s t : ByteArray) (a b c : Nat) (hF : Fit s t a b c) (x : Nat) : toks t (c + x) = toks s (b + x) := by
  obtain ⟨h1, h2, h3, h4, h5, h6, h7⟩ := hF
  rw [← toks_rest t c h4 _ x rfl, ← toks_rest s b h2 _ x rfl, h7]

/-- The new token i begins where the old token k begins, behind the edit. -/
def Hit (s t : ByteArray) (b c i k : Nat) : Prop := i < (toks t 0).length ∧ c ≤ posT t i 0 ∧ k < (toks s 0).length ∧ b ≤ posT s k 0 ∧ posT s k 0 + c = posT t i 0 + b
def Ends (s t : ByteArray) (b c i K I : Nat) : Prop :=
  (i ≤ I ∧ Hit s t b c I K ∧ ∀ i', i ≤ i' → i' < I → ∀ k, ¬ Hit s t b c i' k) ∨ (K = (toks s 0).length ∧ I = (toks t 0).length ∧ ∀ i', i ≤ i' → ∀ k, ¬ Hit s t b c i' k)
theorem ends_ex (s t : ByteArray) (b c : Nat) : ∀ d i, (toks t 0).length - i = d → ∃ K I, Ends s t b c i K I := by
  intro d
  induction d with
  | zero =>
    intro i hd
    exact ⟨_, _, .inr ⟨rfl, rfl, fun i' h k hh => by have := hh.1; omega⟩⟩
  | succ d ih =>
    intro i hd
    by_cases h : ∃ k, Hit s t b c i k
    · obtain ⟨k, hk⟩ := h
      exact ⟨k, i, .inl ⟨Nat.le_refl _, hk, fun i' h1 h2 => by omega⟩⟩
    · obtain ⟨K, I, hE⟩ := ih (i + 1) (by omega)
      refine ⟨K, I, ?_⟩
      rcases hE with ⟨h1, h2, h3⟩ | ⟨h1, h2, h3⟩
      · exact .inl ⟨by omega, h2, fun i' a1 a2 k hk => if e : i' = i then h ⟨k, e ▸ hk⟩ else h3 i' (by omega) a2 k hk⟩
      · exact .inr ⟨h1, h2, fun i' a1 k hk => if e : i' = i then h ⟨k, e ▸ hk⟩ else h3 i' (by omega) k hk⟩
theorem Ends.here {s t : ByteArray} {b c i K I k : Nat} (h : Ends s t b c i K I) (hk : Hit s t b c i k) : I = i ∧ K = k := by
  rcases h with ⟨h1, h2, h3⟩ | ⟨_, _, h3⟩
  · have e : I = i := by
      rcases Nat.lt_or_ge i I with hlt | hge
      · exact absurd hk (h3 i (Nat.le_refl _) hlt k)
      · omega
    subst e
    refine ⟨rfl, pos_inj s K k (by have := h2.2.2.1; omega) (by have := hk.2.2.1; omega) ?_⟩
    have := h2.2.2.2.2; have := hk.2.2.2.2; omega
  · exact absurd hk (h3 i (Nat.le_refl _) k)
theorem Ends.next {s t : ByteArray} {b c i K I : Nat} (h : Ends s t b c i K I) (hn : ∀ k, ¬ Hit s t b c i k) : Ends s t b c (i + 1) K I := by
  rcases h with ⟨h1, h2, h3⟩ | ⟨h1, h2, h3⟩
  · have : I ≠ i := fun e => hn K (e ▸ h2)
    exact .inl ⟨by omega, h2, fun i' a1 a2 => h3 i' (by omega) a2⟩
  · exact .inr ⟨h1, h2, fun i' a1 => h3 i' (by omega)⟩
theorem Ends.last {s t : ByteArray} {b c i K I : Nat} (h : Ends s t b c i K I) (hi : (toks t 0).length ≤ i) : K = (toks s 0).length ∧ I = (toks t 0).length := by
  rcases h with ⟨h1, h2, h3⟩ | ⟨h1, h2, h3⟩
  · have := h2.1; omega
  · exact ⟨h1, h2⟩

/-! ### the program's loops -/
theorem bytes_l0 (s : ByteArray) (hs : s.size ≤ 40000) : ∀ d n, (toks s 0).length - n = d → n ≤ (toks s 0).length → Ev (fun k => relex_bytes.l0 k (posT s n 0 : Nat) (toks s 0) ((toks s 0).length : Int) n) (s.size : Int) := by
  intro d
  have hl := toks_len0 s
  induction d with
  | zero =>
    intro n hd hn
    obtain rfl : n = (toks s 0).length := by omega
    refine Ev.step (f := fun _ => some (s.size : Int)) (fun k => ?_) (Ev.now _)
    simp only [relex_bytes.l0]
    rw [if_neg (by omega), pos_N]
  | succ d ih =>
    intro n hd hn
    have hlt : n < (toks s 0).length := by omega
    have hw := tok_w s n hlt
    have hp := pos_step s n hlt
    have hz := pos_size s (n + 1) (by omega)
    have hlk := look_range s _ (posT_lt s n hlt).1
    refine Ev.step (f := fun k => relex_bytes.l0 k (posT s (n + 1) 0 : Nat) (toks s 0) ((toks s 0).length : Int) ((n + 1 : Nat) : Int)) (fun k => ?_) (ih (n + 1) (by omega) (by omega))
    simp only [relex_bytes.l0]
    rw [hw.1, hw.2, if_pos (by omega), if_pos (by omega), if_pos (by omega), if_neg (by omega), if_neg (by omega), if_neg (by omega), if_neg (by omega), w64 _ (by omega) (by omega), w64 _ (by omega) (by omega)]
    congr 1; omega
theorem bytes_ev (s : ByteArray) (hs : s.size ≤ 40000) : Ev (fun k => relex_bytes.f k (toks s 0)) (s.size : Int) := by
  have hl := toks_len0 s
  refine Ev.congr (fun k => ?_) (bytes_l0 s hs _ 0 rfl (Nat.zero_le _))
  unfold relex_bytes.f
  rw [if_neg (by omega)]; rfl
theorem l2w1 (e : Nat) (h : e ≤ 40000) : wrap64 ((e : Int) + 1) = ((e + 1 : Nat) : Int) := by rw [w64 _ (by omega) (by omega)]; rfl
theorem l2w2 (x y : Nat) (hy : y ≤ 40000) : wrap64 ((x : Int) + ((y : Int) - x)) = ((y : Nat) : Int) := by rw [w64 _ (by omega) (by omega)]; omega
theorem l2w3 (x c b : Nat) (hx : x ≤ 40000) (hc : c ≤ 40000) (hb : b ≤ 40000) : wrap64 ((x : Int) + ((c : Int) - b)) = (x : Int) + ((c : Int) - b) := w64 _ (by omega) (by omega)
section
variable {s t : ByteArray} {a b c f : Nat}
/-- What is told where the scan ends. -/
theorem fin_eq (i e : Nat) (h : (toks s 0).drop e = (toks t 0).drop i) : (toks t 0).take i ++ (toks s 0).drop e = toks t 0 := by
  rw [h, List.take_append_drop]
set_option maxHeartbeats 1000000 in
theorem upd_l2 (hs : s.size ≤ 40000) (ht : t.size ≤ 40000) (hF : Fit s t a b c) (i : Nat) (hi : i < (toks t 0).length) (r : List S23 × Int × Int × Int × Int) : ∀ d e, (toks s 0).length - e = d → f ≤ e → e ≤ (toks s 0).length →
    (∀ n, f ≤ n → n < e → posT s n 0 < b ∨ posT s n 0 + c < posT t i 0 + b) →
    (∀ e', f ≤ e' → e' ≤ (toks s 0).length → (∀ n, f ≤ n → n < e' → posT s n 0 < b ∨ posT s n 0 + c < posT t i 0 + b) → (e' < (toks s 0).length → b ≤ posT s e' 0 ∧ posT t i 0 + b ≤ posT s e' 0 + c) →
      Ev (fun k => relex_Update.j5 k (toks s 0) t ((toks t 0).take i) f e' (posT t i 0 : Nat) (posT s e' 0 : Nat) ((c : Int) - b) a b a c) r) →
    Ev (fun k => relex_Update.l2 k (toks s 0) t ((toks t 0).take i) f e (posT t i 0 : Nat) (posT s e 0 : Nat) ((c : Int) - b) a b a c) r := by
  obtain ⟨h1, h2, h3, h4, h5, h6, h7⟩ := hF
  have hl := toks_len0 s
  intro d
  induction d with
  | zero =>
    intro e hd hfe he hI hk
    obtain rfl : e = (toks s 0).length := by omega
    refine Ev.step (fun k => ?_) (hk _ hfe (Nat.le_refl _) hI (fun h => by omega))
    simp only [relex_Update.l2]
    rw [if_neg (by omega)]
  | succ d ih =>
    intro e hd hfe he hI hk
    have hlt : e < (toks s 0).length := by omega
    have hw := (tok_w s e hlt).1
    have hp := pos_step s e hlt
    have hz := pos_size s (e + 1) (by omega)
    have hzt := pos_size t i (by omega)
    have hgo : (posT s e 0 < b ∨ posT s e 0 + c < posT t i 0 + b) → Ev (fun k => relex_Update.l2 k (toks s 0) t ((toks t 0).take i) f ((e + 1 : Nat) : Int) (posT t i 0 : Nat) (posT s (e + 1) 0 : Nat) ((c : Int) - b) a b a c) r := fun hsk =>
      ih (e + 1) (by omega) (by omega) (by omega) (fun n a1 a2 => if en : n = e then en ▸ hsk else hI n a1 (by omega)) hk
    have hsz : posT s e 0 ≤ 40000 := by omega
    have hsz2 : posT s (e + 1) 0 ≤ 40000 := by omega
    have hcb : c ≤ 40000 ∧ b ≤ 40000 ∧ e ≤ 40000 := by omega
    by_cases c1 : posT s e 0 < b
    · refine Ev.step (fun k => ?_) (hgo (.inl c1))
      simp only [relex_Update.l2]
      rw [if_pos (by omega), if_pos (by omega), if_pos (by omega), hw, l2w1 e hcb.2.2, l2w2 _ _ hsz2]
    · by_cases c2 : posT s e 0 + c < posT t i 0 + b
      · refine Ev.step (fun k => ?_) (hgo (.inr c2))
        simp only [relex_Update.l2]
        rw [if_pos (by omega), if_neg (by omega), l2w3 _ c b hsz hcb.1 hcb.2.1, if_pos (by omega), if_pos (by omega), hw, l2w1 e hcb.2.2, l2w2 _ _ hsz2]
      · refine Ev.step (fun k => ?_) (hk e hfe he hI (fun _ => by omega))
        simp only [relex_Update.l2]
        rw [if_pos (by omega), if_neg (by omega), l2w3 _ c b hsz hcb.1 hcb.2.1, if_neg (by omega)]
set_option maxHeartbeats 1000000 in
theorem upd_l1 (hs : s.size ≤ 40000) (ht : t.size ≤ 40000) (hF : Fit s t a b c) (hf : Fst s a f) (K I : Nat) : ∀ d i e, (toks t 0).length - i = d → f ≤ i → i ≤ (toks t 0).length → f ≤ e → e ≤ (toks s 0).length →
    (∀ n, f ≤ n → n < e → posT s n 0 < b ∨ posT s n 0 + c < posT t i 0 + b) → Ends s t b c i K I →
    Ev (fun k => relex_Update.l1 k (toks s 0) t ((toks t 0).take i) f e (posT t i 0 : Nat) (posT s e 0 : Nat) ((c : Int) - b) a b a c) (toks t 0, (f : Int), (K : Int), (I : Int), 0) := by
  have hF' := hF
  obtain ⟨h1, h2, h3, h4, h5, h6, h7⟩ := hF
  have hl := toks_len0 s
  have hlt' := toks_len0 t
  intro d
  induction d with
  | zero =>
    intro i e hd hfi hi hfe he hI hE
    obtain rfl : i = (toks t 0).length := by omega
    obtain ⟨rfl, rfl⟩ := hE.last (Nat.le_refl _)
    refine Ev.step (f := fun _ => some (toks t 0, (f : Int), ((toks s 0).length : Int), ((toks t 0).length : Int), 0)) (fun k => ?_) (Ev.now _)
    simp only [relex_Update.l1]
    rw [pos_N t, if_neg (by omega), if_pos (by omega), if_pos (by omega), if_pos (Int.le_refl _)]
    simp only [Int.toNat_natCast, List.drop_length, Option.bind_some, List.take_length, List.append_nil, List.length_nil]
    rw [if_pos (by omega)]
  | succ d ih =>
    intro i e hd hfi hi hfe he hI hE
    have hiT : i < (toks t 0).length := by omega
    have hpt := posT_lt t i hiT
    have hpi := pos_step t i hiT
    have hzt := pos_size t (i + 1) (by omega)
    refine Ev.step (f := fun k => relex_Update.l2 k (toks s 0) t ((toks t 0).take i) f e (posT t i 0 : Nat) (posT s e 0 : Nat) ((c : Int) - b) a b a c) (fun k => ?_) ?_
    · simp only [relex_Update.l1]
      rw [if_pos (by omega)]
    · refine upd_l2 (f := f) hs ht hF' i hiT _ _ e rfl hfe he hI (fun e' hfe' he' hI' hst => ?_)
      have hze := pos_size s e' he'
      have hsz : posT s e' 0 ≤ 40000 := by omega
      have hcb : c ≤ 40000 ∧ b ≤ 40000 := by omega
      have hlen : ((toks t 0).take i).length = i := by rw [List.length_take]; omega
      by_cases hh : c ≤ posT t i 0 ∧ e' < (toks s 0).length ∧ posT s e' 0 + c = posT t i 0 + b
      · obtain ⟨g1, g2, g3⟩ := hh
        obtain ⟨g4, g5⟩ := hst g2
        obtain ⟨eI, eK⟩ := hE.here (k := e') ⟨hiT, g1, g2, g4, g3⟩
        rw [eI, eK]
        have hdrop : (toks s 0).drop e' = (toks t 0).drop i := by
          rw [(toks_drop s e' 0 (Nat.zero_le _) he').1, (toks_drop t i 0 (Nat.zero_le _) hi).1]
          have := tail_same s t a b c hF' (posT s e' 0 - b)
          rw [show c + (posT s e' 0 - b) = posT t i 0 by omega, show b + (posT s e' 0 - b) = posT s e' 0 by omega] at this
          exact this.symm
        have hfin := fin_eq i e' hdrop
        have hdl : ((toks s 0).drop e').length ≤ 40000 := by rw [List.length_drop]; omega
        refine Ev.step (f := fun k => relex_Update.j6 k (toks s 0) t ((toks t 0).take i) f e' (posT t i 0 : Nat) (posT s e' 0 : Nat) ((c : Int) - b) true a b a c) (fun k => ?_) (Ev.step (f := fun _ => some (toks t 0, (f : Int), (e' : Int), (i : Int), 0)) (fun k => ?_) (Ev.now _))
        · simp only [relex_Update.j5]
          rw [if_pos (by omega), if_pos (by omega), l2w3 _ c b hsz hcb.1 hcb.2, beq_iff_eq.2 (by omega)]
        · simp only [relex_Update.j6, if_true]
          rw [if_neg (by omega), if_pos (by omega), if_pos (by omega)]
          simp only [Int.toNat_natCast, Option.bind_some]
          rw [hlen, if_pos (by omega), hfin]
      · have hnh : ∀ k, ¬ Hit s t b c i k := by
          rintro k ⟨_, k1, k2, k3, k4⟩
          have hfk : f ≤ k := by
            rcases Nat.lt_or_ge k f with hkf | hkf
            · have q1 := hf.2.1 k hkf
              have q2 := pos_step s k k2
              have q3 := look_range s _ (posT_lt s k k2).1
              omega
            · exact hkf
          have hek : e' ≤ k := by
            rcases Nat.lt_or_ge k e' with hke | hke
            · have := hI' k hfk hke; omega
            · exact hke
          have he'N : e' < (toks s 0).length := by omega
          obtain ⟨g4, g5⟩ := hst he'N
          have hke : posT s k 0 ≤ posT s e' 0 := by omega
          have : e' = k := by
            rcases Nat.lt_or_ge e' k with hlt | hge
            · have := pos_mono s k e' hlt (by omega); omega
            · omega
          subst this
          exact hh ⟨k1, k2, k4⟩
        have hf' : dfa_Scan.f t (posT t i 0 : Nat) = some (kindE t (posT t i 0), ((scanE t (posT t i 0)).2.1 : Int) - (posT t i 0 : Nat), lookE t (posT t i 0), true) := by
          unfold dfa_Scan.f; rw [if_pos (by omega), if_pos (by omega), if_pos (by omega)]; rfl
        have hsu := posT_succ t i 0 hiT
        have hih := ih (i + 1) e' (by omega) (by omega) (by omega) hfe' he' (fun n a1 a2 => by have := hI' n a1 a2; omega) (hE.next hnh)
        rw [take_tok t i hiT] at hih
        refine Ev.step (f := fun k => relex_Update.j6 k (toks s 0) t ((toks t 0).take i) f e' (posT t i 0 : Nat) (posT s e' 0 : Nat) ((c : Int) - b) false a b a c) (fun k => ?_) (Ev.step (fun k => ?_) hih)
        · simp only [relex_Update.j5]
          by_cases g1 : c ≤ posT t i 0
          · by_cases g2 : e' < (toks s 0).length
            · rw [if_pos (by omega), if_pos (by omega), l2w3 _ c b hsz hcb.1 hcb.2, beq_eq_false_iff_ne.2 (fun g3 => hh ⟨g1, g2, by omega⟩)]
            · rw [if_pos (by omega), if_neg (by omega)]
          · rw [if_neg (by omega)]
        · simp only [relex_Update.j6, Bool.false_eq_true, if_false]
          rw [hf']
          simp only [Option.bind_some, if_true]
          rw [hlen, if_pos (by omega), w64 _ (by omega) (by omega), hsu]
          congr 1
          · omega
set_option maxHeartbeats 1000000 in
theorem upd_l0 (hs : s.size ≤ 40000) (ht : t.size ≤ 40000) (hF : Fit s t a b c) (hf : Fst s a f) (r : List S23 × Int × Int × Int × Int)
    (hr : Ev (fun k => relex_Update.l1 k (toks s 0) t ((toks t 0).take f) f f (posT t f 0 : Nat) (posT s f 0 : Nat) ((c : Int) - b) a b a c) r) : ∀ d n, f - n = d → n ≤ f →
    Ev (fun k => relex_Update.l0 k (toks s 0) t n (posT s n 0 : Nat) a b a c) r := by
  have hF' := hF
  obtain ⟨h1, h2, h3, h4, h5, h6, h7⟩ := hF
  have hl := toks_len0 s
  intro d
  induction d with
  | zero =>
    intro n hd hn
    obtain rfl : n = f := by omega
    have hs' := head_same s t a b c n hF' hf n (Nat.le_refl _)
    have hnz := pos_size s n hf.1
    have hN := hf.1
    have ej : Ev (fun k => relex_Update.j2 k (toks s 0) t n (posT s n 0 : Nat) a b a c) r := by
      refine Ev.step (fun k => ?_) hr
      simp only [relex_Update.j2]
      rw [w64 (((toks s 0).length : Int) + 4) (by omega) (by omega), if_pos (by omega), if_pos (by omega), if_pos (by omega)]
      simp only [Option.bind_some, Int.toNat_natCast, List.length_replicate]
      rw [if_pos (by omega), if_pos (by omega), w64 _ (by omega) (by omega), hs'.2.2, hs'.2.1]
    by_cases hlt : n < (toks s 0).length
    · have hw := tok_w s n hlt
      have hp := pos_step s n hlt
      have hz := pos_size s (n + 1) (by omega)
      have hlk := look_range s _ (posT_lt s n hlt).1
      refine Ev.step (fun k => ?_) ej
      simp only [relex_Update.l0]
      rw [hw.1, hw.2, if_pos (by omega), if_pos (by omega), w64 ((posT s n 0 : Int) + ((posT s (n + 1) 0 : Int) - posT s n 0)) (by omega) (by omega), w64 _ (by omega) (by omega), if_neg (by have := hf.2.2 hlt; omega)]
    · refine Ev.step (fun k => ?_) ej
      simp only [relex_Update.l0]
      rw [if_neg (by omega)]
  | succ d ih =>
    intro n hd hn
    have hlt : n < (toks s 0).length := by have := hf.1; omega
    have hw := tok_w s n hlt
    have hp := pos_step s n hlt
    have hz := pos_size s (n + 1) (by omega)
    have hlk := look_range s _ (posT_lt s n hlt).1
    refine Ev.step (f := fun k => relex_Update.l0 k (toks s 0) t ((n + 1 : Nat) : Int) (posT s (n + 1) 0 : Nat) a b a c) (fun k => ?_) (ih (n + 1) (by omega) (by omega))
    simp only [relex_Update.l0]
    rw [hw.1, hw.2, if_pos (by omega), if_pos (by omega), w64 ((posT s n 0 : Int) + ((posT s (n + 1) 0 : Int) - posT s n 0)) (by omega) (by omega), w64 ((posT s n 0 : Int) + ((posT s (n + 1) 0 : Int) - posT s n 0) + lookE s (posT s n 0)) (by omega) (by omega), if_pos (by have := hf.2.1 n (by omega); omega), w64 _ (by omega) (by omega)]
    congr 1; omega
set_option maxHeartbeats 1000000 in
/-- THE STAGE'S THEOREM, of the program: the tokens are those of the text, cut anew. -/
theorem upd_ev (hs : s.size ≤ 40000) (ht : t.size ≤ 40000) (hF : Fit s t a b c) (hf : Fst s a f) (K I : Nat) (hE : Ends s t b c f K I) :
    Ev (fun k => relex_Update.f k (toks s 0) t a b a c) (toks t 0, (f : Int), (K : Int), (I : Int), 0) := by
  have hF' := hF
  obtain ⟨h1, h2, h3, h4, h5, h6, h7⟩ := hF
  have hs' := head_same s t a b c f hF' hf f (Nat.le_refl _)
  have h := upd_l0 hs ht hF' hf _ (upd_l1 hs ht hF' hf K I _ f f rfl (Nat.le_refl _) hs'.1 (Nat.le_refl _) hf.1 (fun n a1 a2 => by omega) hE) _ 0 rfl (Nat.zero_le _)
  refine Ev.congr (f := fun k => (relex_bytes.f k (toks s 0)).bind fun t328 => if t328 = (s.size : Int) then relex_Update.j0 k (toks s 0) t 0 false a b a c else none) (fun k => ?_) (Ev.bind (bytes_ev s hs) ?_)
  · unfold relex_Update.f
    cases hb : relex_bytes.f k (toks s 0) with
    | none => rfl
    | some n =>
      simp only [Option.bind_some]
      by_cases hn : n = (s.size : Int)
      · subst hn
        rw [if_neg (by omega), if_pos rfl, if_pos trivial, if_neg (by omega), if_neg (by omega), if_neg (by omega), if_neg (by omega), if_neg (by omega), w64 _ (by omega) (by omega), w64 _ (by omega) (by omega), bne_eq_false_iff_eq.2 (by omega)]
      · exact absurd (at_bytes k n hb) hn
  · refine Ev.congr (fun k => if_pos rfl) ?_
    refine Ev.step (fun k => ?_) h
    simp only [relex_Update.j0, Bool.false_eq_true, if_false]
    rfl
  where
  at_bytes (k : Nat) (n : Int) (hb : relex_bytes.f k (toks s 0) = some n) : n = (s.size : Int) := by
    obtain ⟨K, hK⟩ := bytes_ev s hs
    have h1 := at_rounds (g := fun k => relex_bytes.f k (toks s 0)) (fun k => relex_bytes.mono _ k) (Nat.le_max_left k K) hb
    have h2 : relex_bytes.f (max k K) (toks s 0) = some (s.size : Int) := hK (max k K) (Nat.le_max_right _ _)
    rw [h1] at h2
    exact Option.some.inj h2
end
/-- What the numbers say: they lie in order, and what is ahead of the first and from the ends on is the same. -/
theorem ends_facts (s t : ByteArray) (a b c f K I : Nat) (hF : Fit s t a b c) (hf : Fst s a f) (hE : Ends s t b c f K I) :
    f ≤ K ∧ K ≤ (toks s 0).length ∧ f ≤ I ∧ I ≤ (toks t 0).length ∧ (toks s 0).take f = (toks t 0).take f ∧ (toks s 0).drop K = (toks t 0).drop I := by
  have hs' := head_same s t a b c f hF hf f (Nat.le_refl _)
  rcases hE with ⟨h1, ⟨k0, k1, k2, k3, k4⟩, h3⟩ | ⟨rfl, rfl, h3⟩
  · refine ⟨?_, by omega, h1, by omega, hs'.2.2.symm, ?_⟩
    · rcases Nat.lt_or_ge K f with hkf | hkf
      · have q1 := hf.2.1 K hkf
        have q2 := pos_step s K k2
        have q3 := look_range s _ (posT_lt s K k2).1
        have := hF.1
        omega
      · exact hkf
    · rw [(toks_drop s K 0 (Nat.zero_le _) (by omega)).1, (toks_drop t I 0 (Nat.zero_le _) (by omega)).1]
      have := tail_same s t a b c hF (posT s K 0 - b)
      rw [show c + (posT s K 0 - b) = posT t I 0 by omega, show b + (posT s K 0 - b) = posT s K 0 by omega] at this
      exact this.symm
  · exact ⟨hf.1, Nat.le_refl _, hs'.1, Nat.le_refl _, hs'.2.2.symm, by simp⟩
end Go.Proofs.YtdnkjfcndjmdbaaDoor.R
