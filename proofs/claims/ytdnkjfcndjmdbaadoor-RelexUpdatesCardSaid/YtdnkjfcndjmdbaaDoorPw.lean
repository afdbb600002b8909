/- Plain: the reference's Word and Scan (layer 11) are the program's. -/
import Derived.Test.YtdnkjfcndjmdbaaDoorQx5
import Derived.Test.YtdnkjfcndjmdbaaDoorPq
namespace Go.Proofs.YtdnkjfcndjmdbaaDoor.P
open Go.RowKit Go.Proofs.YtdnkjfcndjmdbaaDoorW.PrintWords Q G

theorem word_l1 (s : ByteArray) : ∀ d i : Nat, d + i = 8 → (∀ j, j < i → s.data.toList ≠ wordsB.getD j []) →
    Ev (fun k => glossatorref11_Word.l1 k s wordsA i) (if s.data.toList ∈ wordsB then 10 + ((wordsB.idxOf s.data.toList : Nat) : Int) else 6) := by
  intro d
  induction d with
  | zero =>
    intro i hi hn
    obtain rfl : i = 8 := by omega
    refine Ev.step (f := fun _ => some 6) (fun k => by simp only [glossatorref11_Word.l1]; rw [if_neg (by simp [wordsA])]) ?_
    rw [if_neg]
    · exact Ev.now _
    · intro hm
      obtain ⟨j, hj, e⟩ := List.getElem_of_mem hm
      have hj8 : j < 8 := by simpa [wordsB] using hj
      exact hn j hj8 (by rw [← e, List.getD_eq_getElem?_getD, List.getElem?_eq_getElem hj]; rfl)
  | succ d ih =>
    intro i hi hn
    have hi8 : i < 8 := by omega
    by_cases he : s.data.toList = wordsB.getD i []
    · refine Ev.step (f := fun _ => some (10 + (i : Int))) (fun k => ?_) ?_
      · simp only [glossatorref11_Word.l1]
        rw [if_pos (by simp [wordsA]; omega), if_pos (by omega), wordsA_at i hi8, if_pos ((beq_bytes s _).2 he), w64 _ (by omega) (by omega)]
        congr 1; omega
      · have hm : s.data.toList ∈ wordsB := by rw [he, List.getD_eq_getElem?_getD, List.getElem?_eq_getElem (by simpa [wordsB] using hi8)]; exact List.getElem_mem _
        have hix : wordsB.idxOf s.data.toList = i := by
          have h1 : ∀ i : Nat, i < 8 → wordsB.idxOf (wordsB.getD i []) = i := by decide +kernel
          rw [he]; exact h1 i hi8
        rw [if_pos hm, hix]
        exact Ev.now _
    · refine Ev.step (f := fun k => glossatorref11_Word.l1 k s wordsA ((i + 1 : Nat) : Int)) (fun k => ?_) (ih (i + 1) (by omega) (fun j hj => if e : j = i then e ▸ he else hn j (by omega)))
      simp only [glossatorref11_Word.l1]
      rw [if_pos (by simp [wordsA]; omega), if_pos (by omega), wordsA_at i hi8, if_neg (fun h => he ((beq_bytes s _).1 h)), w64 _ (by omega) (by omega)]
      rfl
theorem word_l0 (s : ByteArray) (hs : s.size ≤ 4611686018427387000) (hne : s.size ≠ 0) : ∀ d i : Nat, d + i = s.size → (∀ j, j < i → okAt s j = true) →
    Ev (fun k => glossatorref11_Word.l0 k s i) (wordF s) := by
  intro d
  induction d with
  | zero =>
    intro i hi hok
    obtain rfl : i = s.size := by omega
    refine Ev.step (f := fun k => glossatorref11_Word.l1 k s wordsA ((0 : Nat) : Int)) (fun k => by simp only [glossatorref11_Word.l0]; rw [if_neg (by omega)]; rfl) ?_
    have h := word_l1 s 8 0 rfl (fun j hj => by omega)
    unfold wordF
    rw [if_pos hok, if_neg hne]
    by_cases hm : s.data.toList ∈ wordsB
    · rw [if_pos hm] at h
      obtain ⟨j, hj, e⟩ := List.getElem_of_mem hm
      have hj8 : j < 8 := by simpa [wordsB] using hj
      have e2 : s = ⟨(wordsB.getD j []).toArray⟩ := by
        have : s.data.toList = wordsB.getD j [] := by rw [← e, List.getD_eq_getElem?_getD, List.getElem?_eq_getElem hj]; rfl
        rw [← this]
      have hk := word_known j hj8
      have hix : wordsB.idxOf s.data.toList = j := by
        have h1 : ∀ i : Nat, i < 8 → wordsB.idxOf (wordsB.getD i []) = i := by decide +kernel
        rw [e2]; exact h1 j hj8
      rw [hix] at h
      rw [e2] at h ⊢
      rw [if_pos hk.1, hk.2]
      exact h
    · rw [if_neg hm] at h
      rw [if_neg (word_other s (ok_nospace s hok) (by intro e; apply hne; have := congrArg List.length e; simpa using this) hm)]
      exact h
  | succ d ih =>
    intro i hi hok
    have hlt : i < s.size := by omega
    have hb := bt_range s i
    by_cases ho : okAt s i = true
    · refine Ev.step (f := fun k => glossatorref11_Word.l0 k s ((i + 1 : Nat) : Int)) (fun k => ?_) (ih (i + 1) (by omega) (fun j hj => if e : j = i then e ▸ ho else hok j (by omega)))
      simp only [glossatorref11_Word.l0]
      have h1 := of_decide_eq_true ho
      rw [if_pos (by omega), if_pos (by omega), w32 _ (by omega) (by omega), w64 ((i : Int) + 1) (by omega) (by omega)]
      unfold glossatorref11_Class.f
      simp only [Option.bind_some]
      rcases h1 with h1 | ⟨h1, h2⟩
      · rw [if_pos h1, h1]
        split
        · rw [if_neg (by omega)]; rfl
        · rfl
      · rw [if_neg (by omega), if_pos h1, if_neg (by omega)]; rfl
    · have hz : wordF s = 0 := by unfold wordF; rw [if_neg (fun h => ho (h i hlt))]
      rw [hz]
      refine Ev.step (f := fun _ => some 0) (fun k => ?_) (Ev.now _)
      simp only [glossatorref11_Word.l0]
      have h1 : ¬ (cls (bt s i) = 3 ∨ (cls (bt s i) = 4 ∧ i ≠ 0)) := fun h => ho (decide_eq_true h)
      rw [if_pos (by omega), if_pos (by omega), w32 _ (by omega) (by omega)]
      unfold glossatorref11_Class.f
      simp only [Option.bind_some]
      rw [if_neg (by omega)]
      by_cases h4 : cls (bt s i) = 4
      · rw [if_pos h4, if_pos (by omega)]
      · rw [if_neg h4]
theorem word_ev (s : ByteArray) (hs : s.size ≤ 4611686018427387000) : Ev (fun k => glossatorref11_Word.f k s) (wordF s) := by
  by_cases h : s.size = 0
  · have hl : s.data.toList = [] := List.eq_nil_of_length_eq_zero (by simpa using h)
    refine Ev.congr (g := fun k => glossatorref11_Word.f k s) (f := fun _ => some (wordF s)) (fun k => ?_) (Ev.now _)
    unfold glossatorref11_Word.f wordF
    rw [if_pos (by rw [Lib.toList_data]; exact hl), if_pos (fun i hi => by omega), if_pos h]
  · refine Ev.congr (g := fun k => glossatorref11_Word.f k s) (f := fun k => glossatorref11_Word.l0 k s ((0 : Nat) : Int)) (fun k => ?_) (word_l0 s hs h s.size 0 rfl (fun j hj => by omega))
    unfold glossatorref11_Word.f
    rw [if_neg]
    · rfl
    · intro e; rw [Lib.toList_data] at e; apply h; have := congrArg List.length e; simpa using this

/-! ### the scan -/
theorem step_in : ∀ s : Nat, s < 35 → ∀ c : Nat, c < 24 → glossatorref11_Step.f 5 (s : Int) c = some (goesF s c) := by decide +kernel
theorem step_ev (s c : Int) (hs : 0 ≤ s ∧ s < 35) (hc : 0 ≤ c ∧ c < 24) : Ev (fun k => glossatorref11_Step.f k s c) (goesF s c) := by
  obtain ⟨n, rfl⟩ := Int.eq_ofNat_of_zero_le hs.1
  obtain ⟨m, rfl⟩ := Int.eq_ofNat_of_zero_le hc.1
  exact Ev.of (fun k => glossatorref11_Step.mono _ _ k) (step_in n (by omega) m (by omega))
theorem ends_in : ∀ s : Nat, s < 35 → glossatorref11_ends.f 40 (s : Int) = some (!looksB s) := by decide +kernel
theorem ends_ev (s : Int) (hs : 0 ≤ s ∧ s < 35) : Ev (fun k => glossatorref11_ends.f k s) (!looksB s) := by
  obtain ⟨n, rfl⟩ := Int.eq_ofNat_of_zero_le hs.1
  exact Ev.of (fun k => glossatorref11_ends.mono _ k) (ends_in n (by omega))
theorem kind_in : ∀ s : Nat, s < 35 → glossatorref11_Kind.f (s : Int) = some (rd kinT s) := by decide +kernel

def outK (s : ByteArray) (at_ : Nat) (x : Int × Nat × Bool) : Int := if x.1 = 7 then wordF (s.extract at_ x.2.1) else rd kinT x.1
def outL (s : ByteArray) (x : Int × Nat × Bool) : Int := if looksB x.1 = true then 1 else if x.2.2 = true then min 3 ((s.size : Int) - x.2.1 + 1) else 0
theorem scan_j4 (s : ByteArray) (a : Nat) (st : Int) (t : Nat) (wr : Bool) (K : Int) (hst : 0 ≤ st ∧ st < 35) (ht : t ≤ s.size) (hs : s.size ≤ 4611686018427387000) :
    Ev (fun k => glossatorref11_Scan.j4 k s st t wr K (wrap64 ((t : Int) - a)) 0) (K, wrap64 ((t : Int) - a), outL s (st, t, wr), true) := by
  refine Ev.step (f := fun k => (glossatorref11_ends.f k st).bind fun b => if b = true then (if wr = true then (if (wrap64 ((wrap64 ((s.size : Int) - t)) + 1)) > 3 then some (K, wrap64 ((t : Int) - a), 3, true) else some (K, wrap64 ((t : Int) - a), wrap64 ((wrap64 ((s.size : Int) - t)) + 1), true)) else some (K, wrap64 ((t : Int) - a), 0, true)) else some (K, wrap64 ((t : Int) - a), 1, true)) (fun k => by simp only [glossatorref11_Scan.j4]) ?_
  refine Ev.bind (ends_ev st hst) (Ev.congr (f := fun _ => some (K, wrap64 ((t : Int) - a), outL s (st, t, wr), true)) (fun k => ?_) (Ev.now _))
  unfold outL
  cases looksB st with
  | true => simp
  | false =>
    simp only [Bool.not_false, if_true, Bool.false_eq_true, if_false]
    cases wr with
    | false => simp
    | true =>
      simp only [if_true]
      rw [w64 ((s.size : Int) - t) (by omega) (by omega), w64 _ (by omega) (by omega)]
      split
      · rw [show min (3 : Int) ((s.size : Int) - t + 1) = 3 by omega]
      · rw [show min (3 : Int) ((s.size : Int) - t + 1) = (s.size : Int) - t + 1 by omega]
theorem scan_j3 (s : ByteArray) (a : Nat) (st : Int) (t : Nat) (wr : Bool) (hst : 0 ≤ st ∧ st < 35) (ha : a ≤ t) (ht : t ≤ s.size) (hs : s.size ≤ 4611686018427387000) :
    Ev (fun k => glossatorref11_Scan.j3 k s a st t wr) (outK s a (st, t, wr), (t : Int) - a, outL s (st, t, wr), true) := by
  have e : wrap64 ((t : Int) - a) = (t : Int) - a := w64 _ (by omega) (by omega)
  obtain ⟨n, rfl⟩ := Int.eq_ofNat_of_zero_le hst.1
  have hk := kind_in n (by omega)
  by_cases h7 : (n : Int) = 7
  · refine Ev.step (f := fun k => (glossatorref11_Word.f k (s.extract a t)).bind fun K => glossatorref11_Scan.j4 k s n t wr K (wrap64 ((t : Int) - a)) 0) (fun k => ?_) ?_
    · simp only [glossatorref11_Scan.j3]
      rw [hk]
      simp only [Option.bind_some]
      rw [if_pos h7, if_pos (by omega), if_pos (by omega), if_pos (by omega)]
      rfl
    · have h := Ev.bind (f := fun k K => glossatorref11_Scan.j4 k s n t wr K (wrap64 ((t : Int) - a)) 0) (word_ev (s.extract a t) (by simp; omega)) (scan_j4 s a n t wr _ hst ht hs)
      rw [e] at h
      unfold outK
      rw [e]
      simp only [if_pos h7]
      exact h
  · refine Ev.step (f := fun k => glossatorref11_Scan.j4 k s n t wr (rd kinT n) (wrap64 ((t : Int) - a)) 0) (fun k => ?_) ?_
    · simp only [glossatorref11_Scan.j3]
      rw [hk]
      simp only [Option.bind_some]
      rw [if_neg h7]
    · have h := scan_j4 s a n t wr (rd kinT n) hst ht hs
      rw [e] at h
      unfold outK
      rw [e]
      simp only [if_neg h7]
      exact h
theorem scan_l0 (s : ByteArray) (a : Nat) (hs : s.size ≤ 4611686018427387000) : ∀ d st t wr, s.size - t = d → (0 ≤ st ∧ st < 35) → a ≤ t → t ≤ s.size →
    Ev (fun k => glossatorref11_Scan.l0 k s a st t wr) (outK s a (R s st t wr), ((R s st t wr).2.1 : Int) - a, outL s (R s st t wr), true) := by
  intro d
  induction d using Nat.strongRecOn with
  | ind d ih =>
    intro st t wr hd hst ha ht
    rw [R_eq]
    by_cases hlt : t < s.size
    · rw [if_pos hlt]
      have hp := dec_pos s t
      have hl := dec_le s t hlt
      have hc := cls_range (Utf8.decode s t).1
      have hg := goes_ok st (cls (Utf8.decode s t).1) hst.1 hst.2 hc
      have hI := dec_I s t
      -- one round, whatever the character
      have hj2 : ∀ (r n : Int) (ok : Bool), (r : Int) = (Utf8.decode s t).1 → n = (Utf8.decode s t).2 → ((!ok) = decide (((Utf8.decode s t).1 : Int) = 65533 ∧ ((Utf8.decode s t).2 : Int) = 1)) →
          Ev (fun k => glossatorref11_Scan.j2 k s a st t wr r n ok)
            (if goesF st (cls (Utf8.decode s t).1) < 0 then (outK s a (st, t, wr), (t : Int) - a, outL s (st, t, wr), true)
             else (outK s a (R s (goesF st (cls (Utf8.decode s t).1)) (t + (Utf8.decode s t).2) (decide (st = 0 ∧ ((Utf8.decode s t).1 : Int) = 65533 ∧ ((Utf8.decode s t).2 : Int) = 1))),
               ((R s (goesF st (cls (Utf8.decode s t).1)) (t + (Utf8.decode s t).2) (decide (st = 0 ∧ ((Utf8.decode s t).1 : Int) = 65533 ∧ ((Utf8.decode s t).2 : Int) = 1))).2.1 : Int) - a,
               outL s (R s (goesF st (cls (Utf8.decode s t).1)) (t + (Utf8.decode s t).2) (decide (st = 0 ∧ ((Utf8.decode s t).1 : Int) = 65533 ∧ ((Utf8.decode s t).2 : Int) = 1))), true)) := by
        intro r n ok hr hn hok
        refine Ev.step (f := fun k => (glossatorref11_Step.f k st (cls r)).bind fun g => if g < 0 then glossatorref11_Scan.j3 k s a st t wr else if st = 0 then glossatorref11_Scan.l0 k s a g (wrap64 ((t : Int) + n)) (!ok) else glossatorref11_Scan.l0 k s a g (wrap64 ((t : Int) + n)) false) (fun k => ?_) ?_
        · simp only [glossatorref11_Scan.j2, glossatorref11_Class.f, Option.bind_some]
        · rw [hr]
          refine Ev.bind (step_ev st _ hst hc) ?_
          by_cases hneg : goesF st (cls (Utf8.decode s t).1) < 0
          · simp only [if_pos hneg]
            exact scan_j3 s a st t wr hst ha ht hs
          · simp only [if_neg hneg]
            have h := ih (s.size - (t + (Utf8.decode s t).2)) (by omega) (goesF st (cls (Utf8.decode s t).1)) (t + (Utf8.decode s t).2)
              (decide (st = 0 ∧ ((Utf8.decode s t).1 : Int) = 65533 ∧ ((Utf8.decode s t).2 : Int) = 1)) rfl ⟨by omega, hg.2⟩ (by omega) hl
            have ew : wrap64 ((t : Int) + n) = ((t + (Utf8.decode s t).2 : Nat) : Int) := by rw [hn, w64 _ (by omega) (by omega)]; omega
            by_cases h0 : st = 0
            · simp only [if_pos h0, ew, hok]
              simpa [h0] using h
            · simp only [if_neg h0, ew]
              simpa [h0] using h
      cases hn : nextI s t with
      | none =>
        rw [hn] at hI
        have e1 := hI.2.1 rfl
        refine Ev.step (f := fun k => (glossatorref01_Next.f k s t).bind fun b => if b.2.2 = true then glossatorref11_Scan.j2 k s a st t wr b.1 b.2.1 b.2.2 else glossatorref11_Scan.j2 k s a st t wr 65533 1 b.2.2) (fun k => by simp only [glossatorref11_Scan.l0]; rw [if_pos (by omega)]) ?_
        refine Ev.bind (a := (0, 0, false)) ⟨9, fun k hk => ?_⟩ ?_
        · obtain ⟨m, rfl⟩ : ∃ m, k = m + 9 := ⟨k - 9, by omega⟩
          have := next_f s t m hlt hs
          rw [hn] at this
          exact this
        · simp only [Bool.false_eq_true, if_false]
          have h := hj2 65533 1 false (by rw [e1.1]; rfl) (by rw [e1.2]; rfl) (by simp [e1.1, e1.2])
          split
          · rename_i hneg; rw [if_pos hneg] at h; exact h
          · rename_i hneg; rw [if_neg hneg] at h; exact h
      | some x =>
        obtain ⟨r, n⟩ := x
        rw [hn] at hI
        have e1 := hI.1
        simp only [Option.getD_some, Prod.mk.injEq] at e1
        refine Ev.step (f := fun k => (glossatorref01_Next.f k s t).bind fun b => if b.2.2 = true then glossatorref11_Scan.j2 k s a st t wr b.1 b.2.1 b.2.2 else glossatorref11_Scan.j2 k s a st t wr 65533 1 b.2.2) (fun k => by simp only [glossatorref11_Scan.l0]; rw [if_pos (by omega)]) ?_
        refine Ev.bind (a := (r, n, true)) ⟨9, fun k hk => ?_⟩ ?_
        · obtain ⟨m, rfl⟩ : ∃ m, k = m + 9 := ⟨k - 9, by omega⟩
          have := next_f s t m hlt hs
          rw [hn] at this
          exact this
        · simp only [if_true]
          have hne : ¬ ((Utf8.decode s t).1 = 65533 ∧ (Utf8.decode s t).2 = 1) := fun h => by have := hI.2.2 h; cases this
          have h := hj2 r n true e1.1.symm e1.2.symm (by rw [Bool.not_true, eq_comm, decide_eq_false_iff_not]; omega)
          split
          · rename_i hneg; rw [if_pos hneg] at h; exact h
          · rename_i hneg; rw [if_neg hneg] at h; exact h
    · rw [if_neg hlt]
      refine Ev.step (f := fun k => glossatorref11_Scan.j3 k s a st t wr) (fun k => by simp only [glossatorref11_Scan.l0]; rw [if_neg (by omega)]) (scan_j3 s a st t wr hst ha ht hs)
theorem scan_ev (s : ByteArray) (a : Int) (hs : s.size ≤ 4611686018427387000) : ∃ r, dfa_Scan.f s a = some r ∧ Ev (fun k => glossatorref11_Scan.f k s a) r := by
  by_cases h : 0 ≤ a ∧ a < s.size
  · obtain ⟨n, rfl⟩ := Int.eq_ofNat_of_zero_le h.1
    refine ⟨(kindE s n, ((scanE s n).2.1 : Int) - n, lookE s n, true), ?_, ?_⟩
    · unfold dfa_Scan.f
      rw [if_pos hs, if_pos h.1, if_pos h.2]; rfl
    · refine Ev.congr (f := fun k => glossatorref11_Scan.j0 k s n false) (fun k => by unfold glossatorref11_Scan.f; rw [if_neg (by omega), decide_eq_false (by omega)]) ?_
      refine Ev.step (f := fun k => glossatorref11_Scan.l0 k s n 0 n false) (fun k => by simp only [glossatorref11_Scan.j0]; rw [if_neg (by simp)]) ?_
      exact scan_l0 s n hs (s.size - n) 0 n false rfl ⟨by omega, by omega⟩ (Nat.le_refl _) (by omega)
  · refine ⟨(0, 0, 0, false), ?_, ?_⟩
    · unfold dfa_Scan.f
      rw [if_pos hs]
      by_cases h0 : 0 ≤ a
      · rw [if_pos h0, if_neg (fun h1 => h ⟨h0, h1⟩)]
      · rw [if_neg h0]
    · by_cases h0 : a < 0
      · refine Ev.congr (f := fun k => glossatorref11_Scan.j0 k s a true) (fun k => by unfold glossatorref11_Scan.f; rw [if_pos h0]) (Ev.step (f := fun _ => some (0, 0, 0, false)) (fun k => by simp only [glossatorref11_Scan.j0, if_true]) (Ev.now _))
      · refine Ev.congr (f := fun k => glossatorref11_Scan.j0 k s a true) (fun k => by unfold glossatorref11_Scan.f; rw [if_neg h0, decide_eq_true (by omega)]) (Ev.step (f := fun _ => some (0, 0, 0, false)) (fun k => by simp only [glossatorref11_Scan.j0, if_true]) (Ev.now _))
end Go.Proofs.YtdnkjfcndjmdbaaDoor.P
