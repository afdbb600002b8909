/- Plain: the document's 'Same' of two lists of tokens. -/
import Derived.Test.YtdnkjfcndjmdbaaDoorGt
import Derived.Test.YtdnkjfcndjmdbaaDoorPn
import Derived.Test.YtdnkjfcndjmdbaaDoorQx12
namespace Go.Proofs.YtdnkjfcndjmdbaaDoor.P
open Go.RowKit Go.Proofs.YtdnkjfcndjmdbaaDoorW.PrintWords Q G

theorem rd_get (l : List S23) (n : Nat) (h : n < l.length) : rd_T23 l n = l[n] := by
  simp [rd_T23, List.getD, List.getElem?_eq_getElem h]
theorem sameG_l0 (a b : List S23) (hl : a.length = b.length) (hb : b.length ≤ 40000) : ∀ d n : Nat, a.length - n = d → n ≤ a.length → Ev (fun k => glossatorref12_Same.l0 k a b n) (sameL (a.drop n) (b.drop n)) := by
  intro d
  induction d with
  | zero =>
    intro n hd hn
    have e1 : a.drop n = [] := List.drop_eq_nil_of_le (by omega)
    have e2 : b.drop n = [] := List.drop_eq_nil_of_le (by omega)
    rw [e1, e2]
    refine Ev.step (f := fun _ => some true) (fun k => ?_) (Ev.now _)
    simp only [glossatorref12_Same.l0]
    rw [if_neg (by omega)]
  | succ d ih =>
    intro n hd hn
    have h1 : n < a.length := by omega
    have h2 : n < b.length := by omega
    rw [List.drop_eq_getElem_cons h1, List.drop_eq_getElem_cons h2]
    have hi := ih (n + 1) (by omega) (by omega)
    by_cases he : eqT a[n] b[n] = true
    · have e : sameL (a[n] :: a.drop (n + 1)) (b[n] :: b.drop (n + 1)) = sameL (a.drop (n + 1)) (b.drop (n + 1)) := by simp [sameL, he]
      rw [e]
      refine Ev.step (f := fun k => glossatorref12_Same.l0 k a b ((n + 1 : Nat) : Int)) (fun k => ?_) hi
      simp only [glossatorref12_Same.l0]
      have hq := (eqT_iff _ _).1 he
      rw [if_pos (by omega), if_pos (by omega), if_pos (by omega), rd_get a n h1, rd_get b n h2, hq, if_neg (by simp), w64 _ (by omega) (by omega)]; rfl
    · have e : sameL (a[n] :: a.drop (n + 1)) (b[n] :: b.drop (n + 1)) = false := by simp [sameL, he]
      rw [e]
      refine Ev.step (f := fun _ => some false) (fun k => ?_) (Ev.now _)
      simp only [glossatorref12_Same.l0]
      have hq : (!(a[n].f0 == b[n].f0) || (!(a[n].f1 == b[n].f1) || !(a[n].f2 == b[n].f2))) = true := by
        unfold eqT at he
        cases h0 : a[n].f0 == b[n].f0 <;> cases h1 : a[n].f1 == b[n].f1 <;> cases h2 : a[n].f2 == b[n].f2 <;> simp_all
      rw [if_pos (by omega), if_pos (by omega), if_pos (by omega), rd_get a n h1, rd_get b n h2, if_pos hq]
theorem sameG_ev (a b : List S23) (hb : b.length ≤ 40000) : Ev (fun k => glossatorref12_Same.f k a b) (sameL a b) := by
  by_cases hl : a.length = b.length
  · refine Ev.congr (f := fun k => glossatorref12_Same.l0 k a b ((0 : Nat) : Int)) (fun k => ?_) (sameG_l0 a b hl hb _ 0 rfl (Nat.zero_le _))
    unfold glossatorref12_Same.f
    rw [if_pos (by omega)]; rfl
  · rw [sameL_no (fun e => hl (by rw [e]))]
    refine Ev.congr (f := fun _ => some false) (fun k => ?_) (Ev.now _)
    unfold glossatorref12_Same.f
    rw [if_neg (by omega)]
end Go.Proofs.YtdnkjfcndjmdbaaDoor.P
