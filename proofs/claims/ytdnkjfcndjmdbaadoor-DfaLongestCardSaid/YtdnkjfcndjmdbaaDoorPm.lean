/- Plain: the kind of bytes by the document's words (layer 11's own 'kind') is what the machine says: signs, and all together. -/
import Derived.Test.YtdnkjfcndjmdbaaDoorPk
namespace Go.Proofs.YtdnkjfcndjmdbaaDoor.K
open Go.RowKit Go.Proofs.YtdnkjfcndjmdbaaDoorW.PrintWords Q G P

def sgs : List (List UInt8) := [[40], [41], [123], [125], [44], [59], [61], [61, 61], [33, 61], [60], [60, 61], [62], [62, 61], [43], [45], [42], [47], [37], [33], [38, 38], [124, 124]]
def sgA : List ByteArray := [⟨#[40]⟩, ⟨#[41]⟩, ⟨#[123]⟩, ⟨#[125]⟩, ⟨#[44]⟩, ⟨#[59]⟩, ⟨#[61]⟩, ⟨#[61, 61]⟩, ⟨#[33, 61]⟩, ⟨#[60]⟩, ⟨#[60, 61]⟩, ⟨#[62]⟩, ⟨#[62, 61]⟩, ⟨#[43]⟩, ⟨#[45]⟩, ⟨#[42]⟩, ⟨#[47]⟩, ⟨#[37]⟩, ⟨#[33]⟩, ⟨#[38, 38]⟩, ⟨#[124, 124]⟩]
def sgL (l : List UInt8) : List (List UInt8) → Int → Int
  | [], _ => 0
  | x :: xs, i => if x = l then 20 + i else sgL l xs (i + 1)
theorem sgL_none (l : List UInt8) : ∀ xs i, (∀ x ∈ xs, x ≠ l) → sgL l xs i = 0
  | [], _, _ => rfl
  | x :: xs, i, h => by
    unfold sgL
    rw [if_neg (h x (by simp)), sgL_none l xs (i + 1) (fun y hy => h y (by simp [hy]))]
theorem sgA_at : ∀ i : Nat, i < 21 → (rdOf ByteArray.empty sgA (i : Int)) = ⟨(sgs.getD i []).toArray⟩ := by decide +kernel
theorem sgs_drop : ∀ i : Nat, i < 21 → sgs.drop i = sgs.getD i [] :: sgs.drop (i + 1) := by decide +kernel
theorem sign_l0 (u : ByteArray) : ∀ d i : Nat, d + i = 21 → Ev (fun k => glossatorlaw11_sign.l0 k u sgA i) (sgL u.data.toList (sgs.drop i) i) := by
  intro d
  induction d with
  | zero =>
    intro i hi
    obtain rfl : i = 21 := by omega
    refine Ev.step (f := fun _ => some 0) (fun k => ?_) (Ev.now _)
    simp only [glossatorlaw11_sign.l0]
    rw [if_neg (by simp [sgA])]
  | succ d ih =>
    intro i hi
    have hi21 : i < 21 := by omega
    rw [sgs_drop i hi21]
    unfold sgL
    have hq := beq_list u (sgs.getD i [])
    by_cases he : sgs.getD i [] = u.data.toList
    · rw [if_pos he]
      refine Ev.step (f := fun _ => some (20 + (i : Int))) (fun k => ?_) (Ev.now _)
      simp only [glossatorlaw11_sign.l0]
      rw [if_pos (by simp [sgA]; omega), if_pos (by omega), sgA_at i hi21, if_pos (hq.2 he), w64 _ (by omega) (by omega)]
      congr 1; omega
    · rw [if_neg he]
      refine Ev.step (f := fun k => glossatorlaw11_sign.l0 k u sgA ((i + 1 : Nat) : Int)) (fun k => ?_) (by have := ih (i + 1) (by omega); rwa [show ((i + 1 : Nat) : Int) = (i : Int) + 1 by omega] at this ⊢)
      simp only [glossatorlaw11_sign.l0]
      rw [if_pos (by simp [sgA]; omega), if_pos (by omega), sgA_at i hi21, if_neg (fun h => he (hq.1 h)), w64 _ (by omega) (by omega)]
      rfl
  where
  beq_list (s : ByteArray) (l : List UInt8) : ((⟨l.toArray⟩ : ByteArray).toList = s.toList) ↔ l = s.data.toList := by
    rw [Lib.toList_data, Lib.toList_data]
def sg (u : ByteArray) : Int := sgL u.data.toList sgs 0
theorem sign_ev (u : ByteArray) : Ev (fun k => glossatorlaw11_sign.f k u) (sg u) := sign_l0 u 21 0 rfl

theorem list_at (u : ByteArray) (i : Nat) (h : i < u.size) : u.data.toList[i]? = some (UInt8.ofNat (bt u i).toNat) := by
  rw [bt_list u i h, List.getElem?_eq_getElem (by simpa using h)]
  congr 1
  simp
theorem list_one (u : ByteArray) (h : u.size = 1) : u.data.toList = [UInt8.ofNat (bt u (0 : Nat)).toNat] := by
  have h0 := list_at u 0 (by omega)
  have hl : u.data.toList.length = 1 := by simpa using h
  match hm : u.data.toList, hl with
  | [a], _ => rw [hm] at h0; simpa using h0
theorem list_two (u : ByteArray) (h : u.size = 2) : u.data.toList = [UInt8.ofNat (bt u (0 : Nat)).toNat, UInt8.ofNat (bt u (1 : Nat)).toNat] := by
  have h0 := list_at u 0 (by omega)
  have h1 := list_at u 1 (by omega)
  have hl : u.data.toList.length = 2 := by simpa using h
  match hm : u.data.toList, hl with
  | [a, b], _ => rw [hm] at h0 h1; simp at h0 h1; rw [h0, h1]; rfl
theorem head_of (u : ByteArray) (h : 0 < u.size) : u.data.toList.head? = some (UInt8.ofNat (bt u (0 : Nat)).toNat) := by
  rw [List.head?_eq_getElem?]; exact list_at u 0 h
theorem no_sign (u : ByteArray) (h : 0 < u.size) (hn : ∀ x ∈ sgs, x.head? ≠ some (UInt8.ofNat (bt u (0 : Nat)).toNat)) : sg u = 0 :=
  sgL_none _ _ _ (fun x hx e => hn x hx (by rw [e]; exact head_of u h))
theorem long_sign (u : ByteArray) (h : 2 < u.size) : sg u = 0 :=
  sgL_none _ _ _ (fun x hx e => by
    have h1 : ∀ x ∈ sgs, x.length ≤ 2 := by decide +kernel
    have h2 := h1 x hx
    rw [e] at h2; simp at h2; omega)
theorem head_tab : ∀ b : Nat, b < 256 → (cls b = 1 ∨ cls b = 2 ∨ cls b = 3 ∨ cls b = 4 ∨ 128 ≤ b) → ∀ x ∈ sgs, x.head? ≠ some (UInt8.ofNat b) := by decide +kernel
theorem slash_tab : ∀ x ∈ sgs, x.length = 2 → x.head? ≠ some 47 := by decide +kernel
def signC (b : Nat) : Bool := decide (cls b = 0 ∨ cls b = 6 ∨ 8 ≤ cls b)
theorem tab1 : ∀ b : Nat, b < 128 → signC b = true → (goesF 0 (cls b) ≠ 4 ∧ goesF 0 (cls b) ≠ 5 ∧ goesF 0 (cls b) ≠ 7) ∧ (if sgL [UInt8.ofNat b] sgs 0 = 0 then 5 else sgL [UInt8.ofNat b] sgs 0) = rd kinT (goesF 0 (cls b)) := by decide +kernel
theorem tab2 : ∀ b : Nat, b < 128 → signC b = true → ∀ c ∈ [61, 38, 124], sgL [UInt8.ofNat b, UInt8.ofNat c] sgs 0 = if goesF (goesF 0 (cls b)) (cls (c : Nat)) < 0 then 0 else rd kinT (goesF (goesF 0 (cls b)) (cls (c : Nat))) := by decide +kernel
theorem tab3 : ∀ b : Nat, b < 128 → signC b = true → ∀ c : Nat, c < 24 → (c = 9 ∨ c = 13 ∨ c = 14) ∨ goesF (goesF 0 (cls b)) c < 0 := by decide +kernel
theorem tab4 : ∀ b : Nat, b < 128 → signC b = true → ∀ c : Nat, c < 24 → goesF (goesF 0 (cls b)) c < 0 ∨ (looksB (goesF (goesF 0 (cls b)) c) = false ∧ goesF (goesF 0 (cls b)) c ≠ 4 ∧ goesF (goesF 0 (cls b)) c ≠ 5 ∧ goesF (goesF 0 (cls b)) c ≠ 7) := by decide +kernel
theorem cls2 : ∀ n : Nat, n < 256 → (((n : Int) = 61) ↔ (cls n = 9)) ∧ (((n : Int) = 38) ↔ (cls n = 13)) ∧ (((n : Int) = 124) ↔ (cls n = 14)) := by decide +kernel
theorem second : ∀ x ∈ sgs, x.length = 2 → x[1]? = some 61 ∨ x[1]? = some 38 ∨ x[1]? = some 124 := by decide +kernel
theorem first_cls : ∀ b : Nat, b < 128 → (cls b = 1 ∨ cls b = 2 → goesF 0 (cls b) = 1) ∧ (cls b = 3 → goesF 0 (cls b) = 7) ∧ (cls b = 4 → goesF 0 (cls b) = 8) ∧ (cls b = 5 → goesF 0 (cls b) = 9) ∧ (cls b = 7 → goesF 0 (cls b) = 2) := by decide +kernel

/-! ### one character -/
theorem rc_one (u : ByteArray) (h : 0 < u.size) : (Lib.runeCount u = 1) ↔ (Utf8.decode u 0).2 = u.size := by
  have hp := dec_pos u 0
  have hl := dec_le u 0 h
  unfold Lib.runeCount
  obtain ⟨n, hn⟩ : ∃ n, u.size = n + 1 := ⟨u.size - 1, by omega⟩
  rw [hn]
  unfold Lib.runeCountFrom
  rw [if_pos h, Nat.zero_add]
  by_cases hw : (Utf8.decode u 0).2 < u.size
  · obtain ⟨m, rfl⟩ : ∃ m, n = m + 1 := ⟨n - 1, by omega⟩
    unfold Lib.runeCountFrom
    rw [if_pos hw]
    omega
  · rw [Lib.runeCountFrom_end u _ _ hw]
    omega
theorem char_f (u : ByteArray) (hu : u.size ≤ 4611686018427387000) : glossatorlaw11_character.f u = some (Lib.runeCount u == 1) := by
  unfold glossatorlaw11_character.f; rw [if_pos hu]
theorem word_f (u : ByteArray) (hu : u.size ≤ 4611686018427387000) : dfa_Word.f u = some (wordF u) := by
  unfold dfa_Word.f; rw [if_pos hu]

/-! ### the way through -/
def two (u : ByteArray) : ByteArray := if (u.size : Int) > 1 then u.extract 0 2 else ⟨#[]⟩
theorem kind_j0 (u : ByteArray) (last : Bool) (r : Int) (h : Ev (fun k => glossatorlaw11_kind.j0 k u last (two u)) r) : Ev (fun k => glossatorlaw11_kind.f k u last) r := by
  refine Ev.congr (fun k => ?_) h
  unfold glossatorlaw11_kind.f two
  by_cases hs : (u.size : Int) > 1
  · rw [if_pos hs, if_pos hs, if_pos (by omega), if_pos (by omega)]
  · rw [if_neg hs, if_neg hs]
theorem two_is (u : ByteArray) (b : Nat) (hb : b < 256) : ((two u).toList = [47, UInt8.ofNat b]) ↔ (1 < u.size ∧ bt u (0 : Nat) = 47 ∧ bt u (1 : Nat) = b) := by
  unfold two
  by_cases hs : (u.size : Int) > 1
  · rw [if_pos hs, Lib.toList_data]
    have h2 : (u.extract 0 2).data.toList = [UInt8.ofNat (bt u (0 : Nat)).toNat, UInt8.ofNat (bt u (1 : Nat)).toNat] := by
      have := list_two (u.extract 0 2) (by simp; omega)
      rw [bt_ext u 0 2 0 (by omega) (by omega), bt_ext u 0 2 1 (by omega) (by omega)] at this
      simpa using this
    rw [h2]
    have r0 := bt_range u (0 : Nat)
    have r1 := bt_range u (1 : Nat)
    constructor
    · intro h
      have h3 := (List.cons.inj h).1
      have h4 := (List.cons.inj (List.cons.inj h).2).1
      have h5 : (bt u (0 : Nat)).toNat = 47 := by
        have := congrArg UInt8.toNat h3
        rw [UInt8.toNat_ofNat', Nat.mod_eq_of_lt (by omega)] at this
        exact this
      have h6 : (bt u (1 : Nat)).toNat = b := by
        have := congrArg UInt8.toNat h4
        rw [UInt8.toNat_ofNat', Nat.mod_eq_of_lt (by omega), UInt8.toNat_ofNat', Nat.mod_eq_of_lt (by omega)] at this
        exact this
      omega
    · rintro ⟨_, h1, h2⟩
      rw [h1, h2]; simp
  · rw [if_neg hs]
    constructor
    · intro h; simp at h
    · intro h; omega
/-- What is left, where it is no blank, no comment, no quote, no number. -/
def tl (u : ByteArray) : Int := if wordF u = 0 then (if sg u = 0 then (if (Utf8.decode u 0).2 = u.size then 5 else 0) else sg u) else wordF u
theorem not_nil (u : ByteArray) (h : 0 < u.size) : ¬ u.toList = [] := by
  rw [Lib.toList_data]
  intro e
  have : u.size = 0 := by rw [Lib.size_eq, e]; rfl
  omega
theorem j0_ev (u : ByteArray) (last : Bool) (h : 0 < u.size) (hu : u.size ≤ 4611686018427387000) (r : Int)
    (hbl : (∀ i : Nat, i < u.size → cls (bt u i) = 1 ∨ cls (bt u i) = 2) → r = 1)
    (hln : ¬ (∀ i : Nat, i < u.size → cls (bt u i) = 1 ∨ cls (bt u i) = 2) → 1 < u.size → bt u (0 : Nat) = 47 → bt u (1 : Nat) = 47 → Ev (fun k => glossatorlaw11_kind.l0 k u 0) r)
    (hrm : ¬ (∀ i : Nat, i < u.size → cls (bt u i) = 1 ∨ cls (bt u i) = 2) → 1 < u.size → bt u (0 : Nat) = 47 → bt u (1 : Nat) = 42 → Ev (fun k => glossatorlaw11_remark.f k u last) r)
    (hqu : ¬ (∀ i : Nat, i < u.size → cls (bt u i) = 1 ∨ cls (bt u i) = 2) → bt u (0 : Nat) = 34 → Ev (fun k => glossatorlaw11_quoted.f k u) r)
    (hdi : ¬ (∀ i : Nat, i < u.size → cls (bt u i) = 1 ∨ cls (bt u i) = 2) → (∀ i : Nat, i < u.size → cls (bt u i) = 4) → r = 7)
    (htl : ¬ (∀ i : Nat, i < u.size → cls (bt u i) = 1 ∨ cls (bt u i) = 2) → ¬ (1 < u.size ∧ bt u (0 : Nat) = 47 ∧ (bt u (1 : Nat) = 47 ∨ bt u (1 : Nat) = 42)) → ¬ bt u (0 : Nat) = 34 → ¬ (∀ i : Nat, i < u.size → cls (bt u i) = 4) → r = tl u) :
    Ev (fun k => glossatorlaw11_kind.f k u last) r := by
  refine kind_j0 u last r ?_
  obtain ⟨b, hb, biff⟩ := alike_l0 u blA hu (by decide) u.size 0 rfl (Nat.zero_le _)
  obtain ⟨d, hd, diff⟩ := alike_l0 u diA hu (by decide) u.size 0 rfl (Nat.zero_le _)
  replace biff : b = true ↔ ∀ i : Nat, i < u.size → cls (bt u i) = 1 ∨ cls (bt u i) = 2 := biff.trans ⟨fun h i hi => (mem_bl u i).1 (h i (Nat.zero_le _) hi), fun h i _ hi => (mem_bl u i).2 (h i hi)⟩
  replace diff : d = true ↔ ∀ i : Nat, i < u.size → cls (bt u i) = 4 := diff.trans ⟨fun h i hi => (mem_di u i).1 (h i (Nat.zero_le _) hi), fun h i _ hi => (mem_di u i).2 (h i hi)⟩
  have e47 := two_is u 47 (by omega)
  have e42 := two_is u 42 (by omega)
  have ne := not_nil u h
  have hst : ∀ F : Nat → Bool → Option Int, (∀ k, glossatorlaw11_kind.j0 (k + 1) u last (two u) = (glossatorlaw11_alike.l0 k u blA ((0 : Nat) : Int)).bind (F k)) → Ev (fun k => F k b) r → Ev (fun k => glossatorlaw11_kind.j0 k u last (two u)) r := fun F h1 h2 => Ev.step h1 (Ev.bind hb h2)
  refine hst (fun k t => if t = true then some 1 else (if (two u).toList = [47, 47] then glossatorlaw11_kind.l0 k u 0 else (if (two u).toList = [47, 42] then ((glossatorlaw11_remark.f k u last).bind fun x => some x) else (if 0 < (u.size : Int) then (if bt u 0 = 34 then ((glossatorlaw11_quoted.f k u).bind fun x => some x) else ((glossatorlaw11_alike.l0 k u diA ((0 : Nat) : Int)).bind fun t151 => (if t151 = true then some 7 else ((dfa_Word.f u).bind fun t152 => (if t152 = 0 then ((glossatorlaw11_sign.f k u).bind fun t153 => (if t153 = 0 then ((glossatorlaw11_character.f u).bind fun t154 => (if t154 = true then some 5 else some 0)) else some t153)) else some t152))))) else none)))) (fun k => ?_) ?_
  · simp only [glossatorlaw11_kind.j0]
    rw [if_neg ne]
    rfl
  cases b with
  | true =>
    rw [hbl (biff.1 rfl)]
    exact Ev.congr (fun k => if_pos rfl) (Ev.now _)
  | false =>
    have nb : ¬ ∀ i : Nat, i < u.size → cls (bt u i) = 1 ∨ cls (bt u i) = 2 := fun h => by have := biff.2 h; cases this
    refine Ev.congr (fun k => if_neg (by simp)) ?_
    by_cases h47 : (two u).toList = [47, 47]
    · obtain ⟨a1, a2, a3⟩ := e47.1 h47
      exact Ev.congr (fun k => if_pos h47) (hln nb a1 a2 a3)
    refine Ev.congr (fun k => if_neg h47) ?_
    by_cases h42 : (two u).toList = [47, 42]
    · obtain ⟨a1, a2, a3⟩ := e42.1 h42
      exact Ev.congr (fun k => if_pos h42) (Ev.bind (hrm nb a1 a2 a3) (Ev.now _))
    refine Ev.congr (fun k => if_neg h42) ?_
    refine Ev.congr (fun k => if_pos (by omega)) ?_
    by_cases h34 : bt u 0 = 34
    · exact Ev.congr (fun k => if_pos h34) (Ev.bind (hqu nb h34) (Ev.now _))
    refine Ev.congr (fun k => if_neg h34) (Ev.bind hd ?_)
    cases d with
    | true =>
      rw [hdi nb (diff.1 rfl)]
      exact Ev.congr (fun k => if_pos rfl) (Ev.now _)
    | false =>
      refine Ev.congr (fun k => if_neg (by simp)) ?_
      have hr := htl nb (fun ⟨a1, a2, a3⟩ => a3.elim (fun a3 => h47 (e47.2 ⟨a1, a2, a3⟩)) (fun a3 => h42 (e42.2 ⟨a1, a2, a3⟩))) h34 (fun h => by have := diff.2 h; cases this)
      rw [hr]
      unfold tl
      refine Ev.congr (fun k => by rw [word_f u hu, Option.bind_some]) ?_
      by_cases hw : wordF u = 0
      · rw [if_pos hw]
        refine Ev.congr (fun k => if_pos hw) (Ev.bind (sign_ev u) ?_)
        by_cases hg : sg u = 0
        · rw [if_pos hg, if_pos hg]
          refine Ev.congr (fun k => by rw [char_f u hu, Option.bind_some]) (Ev.congr (f := fun _ => some (if (Utf8.decode u 0).2 = u.size then (5 : Int) else 0)) (fun k => ?_) (Ev.now _))
          have hrc := rc_one u h
          by_cases hd2 : (Utf8.decode u 0).2 = u.size
          · rw [if_pos hd2, if_pos (by simpa using hrc.2 hd2)]
          · rw [if_neg hd2, if_neg (fun h => hd2 (hrc.1 (by simpa using h)))]
        · rw [if_neg hg, if_neg hg]
          exact Ev.now _
      · rw [if_neg hw]
        exact Ev.congr (fun k => if_neg hw) (Ev.now _)
theorem word_no (u : ByteArray) (i : Nat) (hi : i < u.size) (h : okAt u i = false) : wordF u = 0 := by
  unfold wordF
  rw [if_neg (fun hall => by rw [hall i hi] at h; cases h)]
theorem ok0 (u : ByteArray) (h : ¬ cls (bt u (0 : Nat)) = 3) : okAt u 0 = false := decide_eq_false (by
  rintro (h1 | ⟨_, h1⟩)
  · exact h h1
  · exact h1 rfl)
theorem dec1 (u : ByteArray) (h : 0 < u.size) (hb : bt u (0 : Nat) < 128) : (Utf8.decode u 0).2 = 1 := (dec_low u 0 hb h).2
/-- Nothing of these, and more than one byte. -/
theorem tl_none (u : ByteArray) (h : 1 < u.size) (hb : bt u (0 : Nat) < 128) (hw : wordF u = 0) (hs : sg u = 0) : tl u = 0 := by
  unfold tl
  rw [if_pos hw, if_pos hs, dec1 u (by omega) hb, if_neg (by omega)]
theorem kind_ev (u : ByteArray) (last : Bool) (h : 0 < u.size) (hu : u.size ≤ 4611686018427387000) : Ev (fun k => glossatorlaw11_kind.f k u last) (KV u last) := by
  obtain ⟨n, hn, en⟩ := byteN u 0
  obtain ⟨c, hc, ec⟩ := clsN u 0
  have hec : cls (n : Int) = c := by rw [← en]; exact ec
  obtain ⟨b1, b7, b5, b6, b8, b2, b4⟩ := bcls n hn
  by_cases hb : bt u (0 : Nat) < 128
  · rw [KV_low u last h hb]
    have fc := first_cls n (by omega)
    rw [hec] at fc b1 b7 b5 b6 b8 b2 b4
    rw [ec]
    have hS := S_le u _ (goesF 0 c) 1 rfl (goes_start c hc).1 (goes_start c hc).2 (by omega)
    by_cases hc1 : c = 1 ∨ c = 2
    · -- blanks
      rw [fc.1 (by omega)]
      obtain ⟨s1, s2, s3, s4, s5⟩ := S_loop u 1 (fun c => c = 1 ∨ c = 2) (by omega) g1 _ 1 rfl (by omega)
      have hiff : (∀ i : Nat, i < u.size → cls (bt u i) = 1 ∨ cls (bt u i) = 2) ↔ (S u 1 1).2 = u.size := by
        constructor
        · intro hall
          by_cases e : (S u 1 1).2 < u.size
          · obtain ⟨b, hb', eb⟩ := clsN u (S u 1 1).2
            have := s5 e b eb
            have := hall _ e
            omega
          · omega
        · intro e i hi
          by_cases e0 : i = 0
          · subst e0; omega
          · obtain ⟨b, hb', eb⟩ := clsN u i
            have := s4 i (by omega) (by omega) b eb
            omega
      have hno : ¬ cls (bt u (0 : Nat)) = 3 := by omega
      refine j0_ev u last h hu _ (fun hall => ?_) (fun _ _ h1 _ => ?_) (fun _ _ h1 _ => ?_) (fun _ h1 => ?_) (fun _ hall => ?_) (fun hnall _ _ _ => ?_)
      · rw [KS_end u last _ (hiff.1 hall) (by omega) (by omega) (by omega), s1]; rfl
      · have := b7.1 (by omega); omega
      · have := b7.1 (by omega); omega
      · have := b5.1 (by rw [← en]; exact h1); omega
      · have := hall 0 h; omega
      · have hne : (S u 1 1).2 ≠ u.size := fun e => hnall (hiff.2 e)
        rw [KS_not u last _ hne, tl_none u (by omega) hb (word_no u 0 h (ok0 u hno)) (no_sign u h (by rw [en]; exact head_tab n hn (by omega)))]
    by_cases hc3 : c = 3
    · -- a word
      rw [fc.2.1 (by omega)]
      obtain ⟨s1, s2, s3, s4, s5⟩ := S_loop u 7 (fun c => c = 3 ∨ c = 4) (by omega) g7 _ 1 rfl (by omega)
      have hsg := no_sign u h (by rw [en]; exact head_tab n hn (by omega))
      refine j0_ev u last h hu _ (fun hall => ?_) (fun _ _ h1 _ => ?_) (fun _ _ h1 _ => ?_) (fun _ h1 => ?_) (fun _ hall => ?_) (fun hnall _ _ _ => ?_)
      · have := hall 0 h; omega
      · have := b7.1 (by omega); omega
      · have := b7.1 (by omega); omega
      · have := b5.1 (by rw [← en]; exact h1); omega
      · have := hall 0 h; omega
      · by_cases e : (S u 7 1).2 = u.size
        · have hw : wordF u ≠ 0 := by
            have hall : ∀ i, i < u.size → okAt u i = true := fun i hi => by
              unfold okAt
              apply decide_eq_true
              by_cases e0 : i = 0
              · subst e0; left; omega
              · obtain ⟨b, hb', eb⟩ := clsN u i
                have := s4 i (by omega) (by omega) b eb
                omega
            unfold wordF
            rw [if_pos hall, if_neg (by omega)]
            split <;> omega
          unfold KS tl
          rw [if_pos e, if_neg (by omega), if_pos s1, if_neg hw]
        · have hlt : (S u 7 1).2 < u.size := by omega
          obtain ⟨b, hb', eb⟩ := clsN u (S u 7 1).2
          have hn2 := s5 hlt b eb
          rw [KS_not u last _ e, tl_none u (by omega) hb (word_no u _ hlt (decide_eq_false (by omega))) hsg]
    have hno : ¬ cls (bt u (0 : Nat)) = 3 := by omega
    have hw0 := word_no u 0 h (ok0 u hno)
    by_cases hc4 : c = 4
    · -- a number
      rw [fc.2.2.1 (by omega)]
      obtain ⟨s1, s2, s3, s4, s5⟩ := S_loop u 8 (fun c => c = 4) (by omega) g8 _ 1 rfl (by omega)
      have hsg := no_sign u h (by rw [en]; exact head_tab n hn (by omega))
      have hiff : (∀ i : Nat, i < u.size → cls (bt u i) = 4) ↔ (S u 8 1).2 = u.size := by
        constructor
        · intro hall
          by_cases e : (S u 8 1).2 < u.size
          · obtain ⟨b, hb', eb⟩ := clsN u (S u 8 1).2
            have := s5 e b eb
            have := hall _ e
            omega
          · omega
        · intro e i hi
          by_cases e0 : i = 0
          · subst e0; omega
          · obtain ⟨b, hb', eb⟩ := clsN u i
            have := s4 i (by omega) (by omega) b eb
            omega
      refine j0_ev u last h hu _ (fun hall => ?_) (fun _ _ h1 _ => ?_) (fun _ _ h1 _ => ?_) (fun _ h1 => ?_) (fun _ hall => ?_) (fun _ _ _ hnall => ?_)
      · have := hall 0 h; omega
      · have := b7.1 (by omega); omega
      · have := b7.1 (by omega); omega
      · have := b5.1 (by rw [← en]; exact h1); omega
      · rw [KS_end u last _ (hiff.1 hall) (by omega) (by omega) (by omega), s1]; rfl
      · have hne : (S u 8 1).2 ≠ u.size := fun e => hnall (hiff.2 e)
        rw [KS_not u last _ hne, tl_none u (by omega) hb hw0 hsg]
    by_cases hc5 : c = 5
    · -- quoted
      rw [fc.2.2.2.1 (by omega)]
      obtain ⟨q1, q2⟩ := quoted_l0 u hu _ 1 rfl (by omega)
      refine j0_ev u last h hu _ (fun hall => ?_) (fun _ _ h1 _ => ?_) (fun _ _ h1 _ => ?_) (fun _ h1 => ?_) (fun _ hall => ?_) (fun _ _ h34 _ => ?_)
      · have := hall 0 h; omega
      · have := b7.1 (by omega); omega
      · have := b7.1 (by omega); omega
      · have e : KS u last (S u 9 1) = if (S u 9 1).2 = u.size then rd kinT (S u 9 1).1 else 0 := by
          by_cases e : (S u 9 1).2 = u.size
          · rw [KS_end u last _ e (by omega) (by omega) (by omega), if_pos e]
          · rw [KS_not u last _ e, if_neg e]
        rw [e]
        exact q1
      · have := hall 0 h; omega
      · exact absurd (by rw [en]; exact b5.2 (by omega)) h34
    by_cases hc7 : c = 7
    · -- a slash
      rw [fc.2.2.2.2 (by omega)]
      have e47 : bt u (0 : Nat) = 47 := by rw [en]; exact b7.2 (by omega)
      obtain ⟨d, hd, ed⟩ := clsN u 1
      obtain ⟨m, hm, em⟩ := byteN u 1
      obtain ⟨_, d7, _, _, d8, _, _⟩ := bcls m hm
      rw [← em, ed] at d7 d8
      obtain ⟨x7, x8, x0⟩ := g2 d hd
      refine j0_ev u last h hu _ (fun hall => ?_) (fun _ hs _ h1 => ?_) (fun _ hs _ h1 => ?_) (fun _ h1 => ?_) (fun _ hall => ?_) (fun _ hne _ _ => ?_)
      · have := hall 0 h; omega
      · have e2 : S u 2 1 = S u 3 2 := by rw [S_eq, if_pos hs, ed, x7 (by have := d7.1 h1; omega), if_neg (by omega)]
        have hl := line_l0 u hu _ 0 rfl (Nat.zero_le _)
        obtain ⟨s1, s2, s3, s4, s5⟩ := S_loop u 3 (fun c => ¬ c = 2) (by omega) g3 _ 2 rfl (by omega)
        have e3 : S u 3 0 = S u 3 2 := by
          rw [S_eq, if_pos h, ec, (g3 c hc).1 (by omega), if_neg (by omega), S_eq, if_pos hs, ed, (g3 d hd).1 (by have := d7.1 h1; omega), if_neg (by omega)]
        rw [e2]
        rw [e3] at hl
        have e : KS u last (S u 3 2) = if (S u 3 2).2 = u.size then 2 else 0 := by
          by_cases e : (S u 3 2).2 = u.size
          · rw [KS_end u last _ e (by omega) (by omega) (by omega), if_pos e, s1]; rfl
          · rw [KS_not u last _ e, if_neg e]
        rw [e]
        exact hl
      · have e2 : S u 2 1 = S u 4 2 := by rw [S_eq, if_pos hs, ed, x8 (by have := d8.1 h1; omega), if_neg (by omega)]
        rw [e2]
        exact remark_l0 u last hu _ 2 rfl (by omega)
      · omega
      · have := hall 0 h; omega
      · by_cases hs : 1 < u.size
        · have e2 : S u 2 1 = (2, 1) := by
            rw [S_eq, if_pos hs, ed, if_pos (x0 (fun hx => hne ⟨hs, e47, by rcases hx with hx | hx; exact .inl (d7.2 (by omega)); exact .inr (d8.2 (by omega))⟩))]
          have hsg : sg u = 0 := sgL_none _ _ _ (fun x hx e => by
            by_cases hl : x.length = 2
            · refine slash_tab x hx hl ?_
              rw [e, head_of u h, e47]; rfl
            · have h1 : ∀ x ∈ sgs, x.length = 1 ∨ x.length = 2 := by decide +kernel
              have := h1 x hx
              have h2 : x.length = u.size := by rw [e]; simp
              omega)
          rw [e2, KS_not u last _ (by simp only; omega), tl_none u hs hb hw0 hsg]
        · have e2 : S u 2 1 = (2, 1) := by rw [S_eq, if_neg hs]
          have hsg : sg u = 36 := by
            unfold sg
            rw [list_one u (by omega), e47]
            decide +kernel
          rw [e2, KS_end u last _ (by simp only; omega) (by simp) (by simp) (by simp)]
          unfold tl
          rw [if_pos hw0, hsg]; rfl
    -- signs
    have hsc : signC n = true := decide_eq_true (by rw [hec]; omega)
    obtain ⟨⟨t4, t5, t7⟩, t1⟩ := tab1 n (by omega) hsc
    have t2 := tab2 n (by omega) hsc
    have t3 := tab3 n (by omega) hsc
    have t6 := tab4 n (by omega) hsc
    rw [hec] at t4 t5 t7 t1 t2 t3 t6
    refine j0_ev u last h hu _ (fun hall => ?_) (fun _ _ h1 _ => ?_) (fun _ _ h1 _ => ?_) (fun _ h1 => ?_) (fun _ hall => ?_) (fun _ _ _ _ => ?_)
    · have := hall 0 h; omega
    · have := b7.1 (by omega); omega
    · have := b7.1 (by omega); omega
    · have := b5.1 (by rw [← en]; exact h1); omega
    · have := hall 0 h; omega
    · by_cases hs : 1 < u.size
      · obtain ⟨d, hd, ed⟩ := clsN u 1
        obtain ⟨m, hm, em⟩ := byteN u 1
        obtain ⟨c61, c38, c124⟩ := cls2 m hm
        rw [← em, ed] at c61 c38 c124
        have eS : S u (goesF 0 c) 1 = if goesF (goesF 0 c) d < 0 then (goesF 0 c, 1) else (goesF (goesF 0 c) d, 2) := by
          rw [S_eq, if_pos hs, ed]
          rcases t6 d hd with hneg | ⟨hdead, _⟩
          · rw [if_pos hneg, if_pos hneg]
          · split
            · rfl
            · rw [S_dead _ _ _ hdead]
        rw [eS]
        by_cases hs2 : u.size = 2
        · have el : sg u = sgL [UInt8.ofNat n, UInt8.ofNat m] sgs 0 := by
            unfold sg; rw [list_two u hs2, en, em]; rfl
          by_cases hm3 : m = 61 ∨ m = 38 ∨ m = 124
          · have e := t2 m (by simp; exact hm3)
            rw [show cls (m : Int) = d by rw [← em]; exact ed] at e
            rw [← el] at e
            by_cases hneg : goesF (goesF 0 c) d < 0
            · rw [if_pos hneg] at e ⊢
              rw [KS_not u last _ (by simp only; omega), tl_none u hs hb hw0 e]
            · rw [if_neg hneg] at e ⊢
              obtain ⟨_, k4, k5, k7⟩ := (t6 d hd).resolve_left hneg
              rw [KS_end u last _ (by simp only; omega) k4 k5 k7]
              have hg := goes_ok (goesF 0 c) d (by have := (goes_start c hc).1; omega) (goes_start c hc).2 ⟨by omega, by omega⟩
              obtain ⟨a, ha⟩ := Int.eq_ofNat_of_zero_le (show 0 ≤ goesF (goesF 0 c) d by omega)
              have hkp := kin_pos a (by omega) (by have := hg.1 (by omega); omega)
              unfold tl
              rw [if_pos hw0, if_neg (by rw [e, ha]; omega), e]
          · have hneg := (t3 d hd).resolve_left (fun hx => hm3 (by rcases hx with hx | hx | hx; have := c61.2 (by omega); omega; have := c38.2 (by omega); omega; have := c124.2 (by omega); omega))
            have hsg : sg u = 0 := sgL_none _ _ _ (fun x hx e => by
              have hl : x.length = 2 := by rw [e]; simpa using hs2
              have h2 := second x hx hl
              have hx1 : x[1]? = some (UInt8.ofNat m) := by rw [e, list_at u 1 hs, em]; rfl
              rw [hx1] at h2
              have : ∀ m : Nat, m < 256 → (some (UInt8.ofNat m) = some 61 ∨ some (UInt8.ofNat m) = some 38 ∨ some (UInt8.ofNat m) = some 124) → (m = 61 ∨ m = 38 ∨ m = 124) := by decide +kernel
              exact hm3 (this m hm h2))
            rw [if_pos hneg, KS_not u last _ (by simp only; omega), tl_none u hs hb hw0 hsg]
        · have hsg := long_sign u (by omega)
          rw [tl_none u hs hb hw0 hsg, KS_not]
          split <;> simp only <;> omega
      · have e2 : S u (goesF 0 c) 1 = (goesF 0 c, 1) := by rw [S_eq, if_neg hs]
        rw [e2, KS_end u last _ (by simp only; omega) t4 t5 t7]
        have el : sg u = sgL [UInt8.ofNat n] sgs 0 := by
          unfold sg; rw [list_one u (by omega), en]; rfl
        unfold tl
        rw [if_pos hw0, dec1 u h hb, if_pos (show 1 = u.size by omega), el]
        exact t1.symm
  · -- a character beyond ASCII
    rw [KV_high u last h hb]
    have hc0 : cls (bt u (0 : Nat)) = 0 := cls_high _ (by omega)
    have hno : ¬ cls (bt u (0 : Nat)) = 3 := by omega
    have hsg := no_sign u h (by rw [en]; exact head_tab n hn (by omega))
    refine j0_ev u last h hu _ (fun hall => ?_) (fun _ _ h1 _ => ?_) (fun _ _ h1 _ => ?_) (fun _ h1 => ?_) (fun _ hall => ?_) (fun _ _ _ _ => ?_)
    · have := hall 0 h; omega
    · omega
    · omega
    · omega
    · have := hall 0 h; omega
    · unfold tl
      rw [if_pos (word_no u 0 h (ok0 u hno)), if_pos hsg]
end Go.Proofs.YtdnkjfcndjmdbaaDoor.K
