/- lex.At, walked: the first span that has the place. -/
import Derived.Test.YtdnkjfcndjmdbaaDoorGj
import Derived.Test.YtdnkjfcndjmdbaaDoorQx13
namespace Go.Proofs.YtdnkjfcndjmdbaaDoor.G
open Go.RowKit Go.Shelf Go.Proofs.YtdnkjfcndjmdbaaDoorW.PrintWords Go.Proofs.YtdnkjfcndjmdbaaDoorW.PrintLast Go.Proofs.YtdnkjfcndjmdbaaDoorW.PrintMore
open Q (S23 k23 S39 k39)

def hitS (place : Int) (x : S39) : Bool := decide (x.f0 ≤ place ∧ place < x.f1)
def idxS (place : Int) : List S39 → Int → Int
  | [], _ => -1
  | x :: xs, i => if hitS place x then i else idxS place xs (i + 1)

set_option maxHeartbeats 1000000 in
theorem at1_calls (f t place : Int) (B : Nat) (w : World) (hB : w.cell? ⟨B, 0, none⟩ = some (.int .i64 place)) :
    Calls Tryd.prog 76 #[.agg #[.int .i64 f, .int .i64 t], .pointer (some ⟨B, 0, none⟩)] w fun e w' => e = .returned (.bool (hitS place ⟨f, t⟩)) ∧ Below w.heap.size w w' := by
  have hlt := World.block_lt_of_cell? w _ hB
  by_cases h1 : f ≤ place
  · go_enter Tryd.func76, Tryd.ntmps76
    have d1 : decide (f ≤ place) = true := decide_eq_true h1
    go_wp2
    go_ret
    exact ⟨ret_bool (by simp [hitS, h1]), by repeat (first | exact Below.refl _ _ | apply below_alloc)⟩
  · go_enter Tryd.func76, Tryd.ntmps76
    have d1 : decide (f ≤ place) = false := decide_eq_false h1
    go_wp2
    go_ret
    exact ⟨ret_bool (by simp [hitS]; intro; omega), by repeat (first | exact Below.refl _ _ | apply below_alloc)⟩

theorem idxS_drop (place : Int) (xs : List S39) (k : Nat) (h : k < xs.length) : idxS place (xs.drop k) k = if hitS place (Q.rd_T39 xs k) then (k : Int) else idxS place (xs.drop (k + 1)) (k + 1 : Nat) := by
  have e : xs.drop k = Q.rd_T39 xs k :: xs.drop (k + 1) := by
    rw [List.drop_eq_getElem_cons h]
    simp [Q.rd_T39, List.getD, List.getElem?_eq_getElem h]
  rw [e]
  simp [idxS]

set_option maxHeartbeats 4000000 in
set_option maxRecDepth 100000 in
theorem indexFunc_calls (place : Int) (B : Nat) (A : Option Addr) (c : Nat) (xs : List S39) (w : World) (hB : w.cell? ⟨B, 0, none⟩ = some (.int .i64 place)) (hr : Kd.C k39 w A xs.length xs) (hc : xs.length ≤ 4611686018427387000) :
    Calls Tryd.prog 75 #[.slice A xs.length c, .func (.func 76) #[] #[.pointer (some ⟨B, 0, none⟩)]] w fun e w' => e = .returned (.int .i64 (idxS place xs 0)) ∧ Below w.heap.size w w' := by
  have HR := Aside0.mk hr
  have HB := Aside0.mk hB
  clear hr hB
  go_enter Tryd.func75, Tryd.ntmps75
  go_wp2
  go_loopw [8] (fun i wr => ∃ k : Nat, k ≤ xs.length ∧ i = .int .i64 k ∧ Aside0 (idxS place (xs.drop k) k = idxS place xs 0) ∧ Aside0 (Below w.heap.size w wr)) (fun i _ => xs.length - (intOf i).toNat)
  case atStart => exact ⟨0, by omega, rfl, ⟨rfl⟩, ⟨Below.refl _ _⟩⟩
  case round =>
    obtain ⟨k, hk, rfl, HI, HW⟩ := hrel
    by_cases hlt : k < xs.length
    · obtain ⟨ad, e, x0, x1⟩ := Q.at_T39 HR.out k (by omega) (by omega)
      cases e
      replace x0 := (HW.out.cell (World.block_lt_of_cell? w _ x0)).trans x0
      replace x1 := (HW.out.cell (World.block_lt_of_cell? w _ x1)).trans x1
      have hB' : wr.cell? ⟨B, 0, none⟩ = some (.int .i64 place) := (HW.out.cell (p := ⟨B, 0, none⟩) (World.block_lt_of_cell? w _ HB.out)).trans HB.out
      have HI2 := Aside0.mk ((idxS_drop place xs k hlt).symm.trans HI.out)
      clear HI
      have d0 : decide ((k : Int) < (xs.length : Int)) = true := by simp; omega
      by_cases hh : hitS place (Q.rd_T39 xs k) = true
      · rw [if_pos hh] at HI2
        simp only [Int.toNat_natCast] at x0 x1
        go_wp2_with (go_at_call 76; refine (at1_calls _ _ place B _ hB').mono ?_; rintro e w1 ⟨rfl, hb1⟩)
        go_ret
        exact ⟨ret_int HI2.out, HW.out.trans (hb1.mono HW.out.size)⟩
      · rw [if_neg hh] at HI2
        replace hh : hitS place (Q.rd_T39 xs k) = false := by simpa using hh
        simp only [Int.toNat_natCast] at x0 x1
        go_wp2_with (go_at_call 76; refine (at1_calls _ _ place B _ hB').mono ?_; rintro e w1 ⟨rfl, hb1⟩)
        go_roundw
        case rel => exact ⟨k + 1, by omega, by go_num, HI2, ⟨HW.out.trans (hb1.mono HW.out.size)⟩⟩
        case measure => simp [intOf]; omega
    · obtain rfl : k = xs.length := by omega
      have hi := HI.out
      have d0 : decide ((xs.length : Int) < (xs.length : Int)) = false := by simp
      simp [idxS] at hi
      go_wp2
      go_ret
      exact ⟨ret_int hi, HW.out⟩

def lex_At.f (k : Nat) (l : List S23) (place : Int) : Option Int := (Q.lex_Spans.f k l).bind fun sp => if sp.length ≤ 4611686018427387000 then some (idxS place sp 0) else none
theorem lex_At.mono : ∀ a0 a1 k, LeO (lex_At.f k a0 a1) (lex_At.f (k + 1) a0 a1) := by
  intro a0 a1 k
  unfold lex_At.f
  refine LeO.bind (Q.lex_Spans.mono _ _) (fun _ => ?_)
  exact LeO.refl _
set_option maxHeartbeats 4000000 in
set_option maxRecDepth 100000 in
theorem lex_At.calls (k : Nat) (A0 : Option Addr) (c0 : Nat) (l0 : List S23) (a1 : Int) (r : Int) (w : World) (hr0 : Kd.C k23 w A0 l0.length l0) (hc0 : l0.length ≤ c0) (h : lex_At.f k l0 a1 = some r) :
    Calls Tryd.prog 56 #[.slice A0 l0.length c0, .int .i64 a1] w fun e w' => e = .returned (.int .i64 r) ∧ Below w.heap.size w w' := by
  unfold lex_At.f at h
  cases hs : Q.lex_Spans.f k l0 with
  | none => rw [hs] at h; cases h
  | some sp =>
    rw [hs] at h
    simp only [Option.bind_some] at h
    by_cases hl : sp.length ≤ 4611686018427387000
    · rw [if_pos hl] at h
      obtain rfl := Option.some.inj h
      clear h
      have HS := Aside0.mk hs
      have HR := Aside0.mk hr0
      have HL := Aside0.mk hl
      clear hs hr0 hl
      have HB := Aside0.mk ((Below.refl w.heap.size w).alloc (Nat.le_refl _) (.cells #[.int .i64 a1] 3))
      have HC := Aside0.mk (Boxed.new w 3 (.int .i64 a1)).cell
      go_enter Tryd.func56, Tryd.ntmps56
      go_wp2_with (first | (go_at_call 28; refine (Q.lex_Spans.calls k A0 c0 l0 sp _ (Kd.C_below HR.out HB.out) hc0 HS.out).mono ?_; rintro e w1 ⟨v, rfl, hR, hb1⟩; obtain ⟨A1, c1, rfl, hc1, hC1⟩ := Kd.R_reads hR; have hB1 := (hb1.cell (p := ⟨w.heap.size, 0, none⟩) (by simp)).trans HC.out) | (go_at_call 75; refine (indexFunc_calls a1 w.heap.size A1 c1 sp _ hB1 hC1 HL.out).mono ?_; rintro e w2 ⟨rfl, hb2⟩))
      all_goals go_ret
      all_goals exact ⟨rfl, HB.out.trans ((hb1.mono HB.out.size).trans (hb2.mono (Nat.le_trans HB.out.size hb1.size)))⟩
    · rw [if_neg hl] at h; cases h
end Go.Proofs.YtdnkjfcndjmdbaaDoor.G
