/- Plain: an edit brought to whole characters (layer 13's own 'fits') is an edit. -/
import Derived.Test.YtdnkjfcndjmdbaaDoorPr
import Derived.Test.YtdnkjfcndjmdbaaDoorQx18
namespace Go.Proofs.YtdnkjfcndjmdbaaDoor.R
open Go.RowKit Go.Proofs.YtdnkjfcndjmdbaaDoorW.PrintWords Go.Proofs.YtdnkjfcndjmdbaaDoorW.PrintMore Q G P

theorem valid_l0 (s : ByteArray) (hs : s.size ≤ 40000) : ∀ d p, s.size - p = d → p ≤ s.size → ∃ r, Ev (fun k => glossatorref01_Valid.l0 k s p) r := by
  intro d
  induction d using Nat.strongRecOn with
  | ind d ih =>
    intro p hd hp
    by_cases h : p < s.size
    · have hn : Ev (fun k => glossatorref01_Next.f k s p) (match nextI s p with | some (r, n) => (r, n, true) | none => (0, 0, false)) := ⟨9, fun k hk => by
        obtain ⟨m, rfl⟩ : ∃ m, k = m + 9 := ⟨k - 9, by omega⟩
        exact next_f s p m h (by omega)⟩
      cases hx : nextI s p with
      | none =>
        rw [hx] at hn
        refine ⟨false, Ev.step (f := fun k => (glossatorref01_Next.f k s p).bind fun bt => if bt.2.2 = true then glossatorref01_Valid.l0 k s (wrap64 ((p : Int) + bt.2.1)) else some false) (fun k => ?_) (Ev.bind hn (Ev.congr (fun k => if_neg (by simp)) (Ev.now _)))⟩
        simp only [glossatorref01_Valid.l0]
        rw [if_pos (by omega)]
      | some q =>
        obtain ⟨c, n⟩ := q
        rw [hx] at hn
        have hd1 := (dec_I s p).1
        rw [hx] at hd1
        have e2 : ((Utf8.decode s p).2 : Int) = n := (Prod.mk.inj hd1).2
        have hpos := dec_pos s p
        have hle := dec_le s p h
        obtain ⟨r, hr⟩ := ih (s.size - (p + (Utf8.decode s p).2)) (by omega) (p + (Utf8.decode s p).2) rfl (by omega)
        refine ⟨r, Ev.step (f := fun k => (glossatorref01_Next.f k s p).bind fun bt => if bt.2.2 = true then glossatorref01_Valid.l0 k s (wrap64 ((p : Int) + bt.2.1)) else some false) (fun k => ?_) (Ev.bind hn (Ev.congr (fun k => if_pos rfl) ?_))⟩
        · simp only [glossatorref01_Valid.l0]
          rw [if_pos (by omega)]
        · refine Ev.congr (fun k => ?_) hr
          show glossatorref01_Valid.l0 k s (wrap64 ((p : Int) + n)) = _
          rw [← e2, w64 _ (by omega) (by omega)]
          rfl
    · refine ⟨true, Ev.step (f := fun _ => some true) (fun k => ?_) (Ev.now _)⟩
      simp only [glossatorref01_Valid.l0]
      rw [if_neg (by omega)]
theorem valid_ev (s : ByteArray) (hs : s.size ≤ 40000) : ∃ r, Ev (fun k => glossatorref01_Valid.f k s) r := valid_l0 s hs s.size 0 rfl (Nat.zero_le _)

/-! ### the text behind the edit -/
def newT (s x : ByteArray) (a b : Nat) : ByteArray := (s.extract 0 a ++ x) ++ s.extract b s.size
theorem newT_list (s x : ByteArray) (a b : Nat) : (newT s x a b).data.toList = s.data.toList.take a ++ x.data.toList ++ s.data.toList.drop b := by
  unfold newT
  rw [ByteArray.data_append, ByteArray.data_append, Array.toList_append, Array.toList_append, Lib.extract_data, Lib.extract_data]
  congr 1
  rw [List.take_of_length_le (by rw [List.length_drop, ← Lib.size_eq]; omega)]
theorem newT_size (s x : ByteArray) (a b : Nat) (hab : a ≤ b) (hb : b ≤ s.size) : (newT s x a b).size = a + x.size + (s.size - b) := by
  rw [Lib.size_eq, newT_list, List.length_append, List.length_append, List.length_take, List.length_drop, ← Lib.size_eq, ← Lib.size_eq]; omega
theorem newT_fit (s x : ByteArray) (a b : Nat) (hab : a ≤ b) (hb : b ≤ s.size) : Fit s (newT s x a b) a b (a + x.size) := by
  have hz := newT_size s x a b hab hb
  refine ⟨hab, hb, by omega, by omega, by omega, fun j hj => ?_, ?_⟩
  · rw [bt_list _ _ (by omega), bt_list _ _ (by omega)]
    congr 2
    have hl : j < (s.data.toList.take a).length := by rw [List.length_take, ← Lib.size_eq]; omega
    simp only [newT_list, List.append_assoc]
    rw [List.getElem_append_left hl, List.getElem_take]
  · have h1 : ((newT s x a b).extract (a + x.size) (newT s x a b).size).data.toList = (s.extract b s.size).data.toList := by
      have hla : (s.data.toList.take a).length = a := by rw [List.length_take, ← Lib.size_eq]; omega
      rw [Lib.extract_data, Lib.extract_data, newT_list, List.drop_append, List.length_append, hla, ← Lib.size_eq]
      rw [List.drop_eq_nil_of_le (by rw [List.length_append, hla, ← Lib.size_eq]; exact Nat.le_refl _), Nat.sub_self, List.drop_zero, List.nil_append]
      rw [List.take_of_length_le (by rw [List.length_drop, ← Lib.size_eq]; omega), List.take_of_length_le (by rw [List.length_drop, ← Lib.size_eq]; omega)]
    have h2 := Array.toList_inj.1 h1
    cases hA : (newT s x a b).extract (a + x.size) (newT s x a b).size
    cases hB : s.extract b s.size
    rw [hA, hB] at h2
    congr 1

theorem fits_l1 (s x : ByteArray) (hs : s.size ≤ 6000) (hx : x.size ≤ 3000) (a : Nat) (y0 y1 : Int) : ∀ d b, s.size - b = d → a ≤ b → b ≤ s.size →
    ∃ b', a ≤ b' ∧ b' ≤ s.size ∧ Ev (fun k => glossatorlaw13_fits.l1 k s a b y0 y1 x) ((a : Int), (b' : Int), (a : Int), ((a + x.size : Nat) : Int), newT s x a b', true) := by
  have fin : ∀ b : Nat, a ≤ b → b ≤ s.size → (if 0 ≤ (a : Int) then (if (a : Int) ≤ (s.size : Int) then (if (s.extract 0 (a : Int).toNat).size + x.size ≤ 9223372036854775807 then (if 0 ≤ (b : Int) then (if (b : Int) ≤ (s.size : Int) then (if ((s.extract 0 (a : Int).toNat) ++ x).size + (s.extract (b : Int).toNat s.size).size ≤ 9223372036854775807 then (some ((a : Int), (b : Int), (a : Int), wrap64 ((a : Int) + (x.size : Int)), ((s.extract 0 (a : Int).toNat) ++ x) ++ (s.extract (b : Int).toNat s.size), true)) else none) else none) else none) else none) else none) else none) = some ((a : Int), (b : Int), (a : Int), ((a + x.size : Nat) : Int), newT s x a b, true) := by
    intro b hab hb
    have h1 : (s.extract 0 a).size = a := by simp; omega
    have h2 : (s.extract b s.size).size = s.size - b := by simp
    have h3 : (s.extract 0 a ++ x).size = a + x.size := by rw [ByteArray.size_append, h1]
    simp only [Int.toNat_natCast]
    rw [if_pos (by omega), if_pos (by omega), if_pos (by omega), if_pos (by omega), if_pos (by omega), if_pos (by omega), w64 _ (by omega) (by omega)]
    rfl
  intro d
  induction d with
  | zero =>
    intro b hd hab hb
    refine ⟨b, hab, hb, Ev.step (f := fun _ => some ((a : Int), (b : Int), (a : Int), ((a + x.size : Nat) : Int), newT s x a b, true)) (fun k => ?_) (Ev.now _)⟩
    simp only [glossatorlaw13_fits.l1]
    rw [if_neg (by omega)]
    exact fin b hab hb
  | succ d ih =>
    intro b hd hab hb
    by_cases hc : ((Int.tdiv (bt s b) 64) % 256) = 2
    · obtain ⟨b', h1, h2, h3⟩ := ih (b + 1) (by omega) (by omega) (by omega)
      refine ⟨b', h1, h2, Ev.step (fun k => ?_) h3⟩
      simp only [glossatorlaw13_fits.l1]
      rw [if_pos (by omega), if_pos (by omega), if_pos hc, l2w1 b (by omega)]
    · refine ⟨b, hab, hb, Ev.step (f := fun _ => some ((a : Int), (b : Int), (a : Int), ((a + x.size : Nat) : Int), newT s x a b, true)) (fun k => ?_) (Ev.now _)⟩
      simp only [glossatorlaw13_fits.l1]
      rw [if_pos (by omega), if_pos (by omega), if_neg hc]
      have h := fin b hab hb
      rw [if_pos (by omega), if_pos (by omega)] at h
      rw [if_pos (show 0 ≤ (a : Int) by omega), if_pos (show (a : Int) ≤ s.size by omega)]
      have h1 : (s.extract 0 a).size = a := by simp; omega
      rw [if_pos (by simp only [Int.toNat_natCast]; omega), if_pos (show 0 ≤ (b : Int) by omega)] at h
      rw [if_pos (by simp only [Int.toNat_natCast]; omega)]
      exact h
theorem fits_l0 (s x : ByteArray) (hs : s.size ≤ 6000) (hx : x.size ≤ 3000) (b : Nat) (hb : b ≤ s.size) (y0 y1 : Int) : ∀ a, a ≤ b →
    ∃ a' b' : Nat, a' ≤ b' ∧ b' ≤ s.size ∧ Ev (fun k => glossatorlaw13_fits.l0 k s a b y0 y1 x) ((a' : Int), (b' : Int), (a' : Int), ((a' + x.size : Nat) : Int), newT s x a' b', true) := by
  intro a
  have stop : ∀ a : Nat, a ≤ b → (∀ k, glossatorlaw13_fits.l0 (k + 1) s a b y0 y1 x = glossatorlaw13_fits.j2 k s a b y0 y1 x) →
      ∃ a' b' : Nat, a' ≤ b' ∧ b' ≤ s.size ∧ Ev (fun k => glossatorlaw13_fits.l0 k s a b y0 y1 x) ((a' : Int), (b' : Int), (a' : Int), ((a' + x.size : Nat) : Int), newT s x a' b', true) := by
    intro a hab he
    obtain ⟨b', h1, h2, h3⟩ := fits_l1 s x hs hx a y0 y1 _ b rfl hab hb
    exact ⟨a, b', h1, h2, Ev.step he (Ev.step (fun k => by simp only [glossatorlaw13_fits.j2]) h3)⟩
  induction a with
  | zero =>
    intro hab
    exact stop 0 hab (fun k => by simp only [glossatorlaw13_fits.l0]; rw [if_neg (by omega)])
  | succ a ih =>
    intro hab
    by_cases h1 : a + 1 < s.size
    · by_cases hc : ((Int.tdiv (bt s ((a + 1 : Nat) : Int)) 64) % 256) = 2
      · obtain ⟨a', b', i1, i2, i3⟩ := ih (by omega)
        refine ⟨a', b', i1, i2, Ev.step (fun k => ?_) i3⟩
        simp only [glossatorlaw13_fits.l0]
        rw [if_pos (by omega), if_pos (by omega), if_pos (by omega), if_pos hc, w64 _ (by omega) (by omega)]
        congr 1; omega
      · exact stop (a + 1) hab (fun k => by
          simp only [glossatorlaw13_fits.l0]
          rw [if_pos (by omega), if_pos (by omega), if_pos (by omega), if_neg hc])
    · exact stop (a + 1) hab (fun k => by
        simp only [glossatorlaw13_fits.l0]
        rw [if_pos (by omega), if_neg (by omega)])
theorem rest_f (x : Int) (m : Nat) (hm : 0 < m) (hm2 : m ≤ 40000) : ∃ n : Nat, n < m ∧ glossatorlaw13_rest.f x m = some (n : Int) := by
  obtain ⟨n, h1, h2⟩ := modT x m hm hm2
  refine ⟨n, h1, ?_⟩
  unfold glossatorlaw13_rest.f
  rw [if_neg (u64_len m hm hm2), h2]
/-- What 'fits' tells: there is none, or an edit. -/
theorem fits_ev (s x : ByteArray) (y0 y1 : Int) : Ev (fun k => glossatorlaw13_fits.f k s y0 y1 x) (0, 0, 0, 0, ⟨#[]⟩, false) ∨
    (s.size ≤ 6000 ∧ x.size ≤ 3000 ∧ ∃ a b : Nat, a ≤ b ∧ b ≤ s.size ∧ Ev (fun k => glossatorlaw13_fits.f k s y0 y1 x) ((a : Int), (b : Int), (a : Int), ((a + x.size : Nat) : Int), newT s x a b, true)) := by
  have no : ∀ (g : Nat → Option (Int × Int × Int × Int × ByteArray × Bool)), (∀ k, g k = glossatorlaw13_fits.j0 k s true y0 y1 x) → Ev g (0, 0, 0, 0, ⟨#[]⟩, false) := fun g hg =>
    Ev.congr hg (Ev.step (f := fun _ => some (0, 0, 0, 0, ⟨#[]⟩, false)) (fun k => by simp only [glossatorlaw13_fits.j0, if_true]) (Ev.now _))
  by_cases h1 : (s.size : Int) > 6000
  · exact .inl (no _ (fun k => by unfold glossatorlaw13_fits.f; rw [if_pos h1]))
  by_cases h2 : (x.size : Int) > 3000
  · exact .inl (no _ (fun k => by unfold glossatorlaw13_fits.f; rw [if_neg h1, if_pos h2]))
  obtain ⟨v1, hv1⟩ := valid_ev s (by omega)
  obtain ⟨v2, hv2⟩ := valid_ev x (by omega)
  have hst : ∀ r, Ev (fun k => if v1 = true then (glossatorref01_Valid.f k x).bind fun t321 => glossatorlaw13_fits.j0 k s (!t321) y0 y1 x else glossatorlaw13_fits.j0 k s true y0 y1 x) r → Ev (fun k => glossatorlaw13_fits.f k s y0 y1 x) r := fun r hr =>
    Ev.congr (f := fun k => (glossatorref01_Valid.f k s).bind fun t320 => if t320 = true then (glossatorref01_Valid.f k x).bind fun t321 => glossatorlaw13_fits.j0 k s (!t321) y0 y1 x else glossatorlaw13_fits.j0 k s true y0 y1 x) (fun k => by unfold glossatorlaw13_fits.f; rw [if_neg h1, if_neg h2]) (Ev.bind hv1 hr)
  cases v1 with
  | false => exact .inl (hst _ (no _ (fun k => if_neg (by simp))))
  | true =>
    cases v2 with
    | false => exact .inl (hst _ (Ev.congr (fun k => if_pos rfl) (Ev.bind hv2 (no _ (fun k => rfl)))))
    | true =>
      refine .inr ⟨by omega, by omega, ?_⟩
      obtain ⟨a, ha, ea⟩ := rest_f y0 (s.size + 1) (by omega) (by omega)
      obtain ⟨n, hn, en⟩ := rest_f y1 (s.size - a + 1) (by omega) (by omega)
      obtain ⟨a', b', i1, i2, i3⟩ := fits_l0 s x (by omega) (by omega) (a + n) (by omega) y0 y1 a (by omega)
      refine ⟨a', b', i1, i2, hst _ (Ev.congr (fun k => if_pos rfl) (Ev.bind hv2 (Ev.step (fun k => ?_) i3)))⟩
      simp only [glossatorlaw13_fits.j0, Bool.not_true, Bool.false_eq_true, if_false]
      rw [w64 ((s.size : Int) + 1) (by omega) (by omega), show (s.size : Int) + 1 = ((s.size + 1 : Nat) : Int) from rfl, ea, Option.bind_some, w64 ((s.size : Int) - a) (by omega) (by omega), w64 _ (by omega) (by omega), show (s.size : Int) - a + 1 = ((s.size - a + 1 : Nat) : Int) by omega, en, Option.bind_some, w64 _ (by omega) (by omega)]
      rfl
end Go.Proofs.YtdnkjfcndjmdbaaDoor.R
