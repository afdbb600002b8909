/- edits.Around of two edits, walked. -/
import Derived.Test.YtdnkjfcndjmdbaaDoorQx0
import Derived.Deep.RegionHeld3
import Derived.LoopN
namespace Go.Proofs.YtdnkjfcndjmdbaaDoor.G
open Go.RowKit Go.Proofs.YtdnkjfcndjmdbaaDoorW.PrintWords Go.Proofs.YtdnkjfcndjmdbaaDoorW.PrintLast Go.Proofs.YtdnkjfcndjmdbaaDoorW.PrintMore
open Q (S55 k55 S39)
/-- Between these an edit's numbers lie. -/
def edOk (x : S55) : Bool := decide (0 ≤ x.f0 ∧ x.f0 ≤ x.f1 ∧ x.f1 ≤ 100000 ∧ x.f2.size ≤ 100000)
/-- The numbers behind one edit, and behind a second one: the old stretch, the new one. -/
def ar1 (x : S55) : Int × Int × Int × Int := (x.f0, x.f1, x.f0, x.f1 - (x.f1 - x.f0) + x.f2.size)
def ar2 (x y : S55) : Int × Int × Int × Int :=
  (if y.f0 < (ar1 x).2.2.1 then y.f0 else (ar1 x).2.2.1, x.f1 + (if (ar1 x).2.2.2 < y.f1 then y.f1 else (ar1 x).2.2.2) - (ar1 x).2.2.2, if y.f0 < (ar1 x).2.2.1 then y.f0 else (ar1 x).2.2.1, (if (ar1 x).2.2.2 < y.f1 then y.f1 else (ar1 x).2.2.2) - (y.f1 - y.f0) + y.f2.size)
def edits_Around.f (l : List S55) : Option (Int × Int × Int × Int × Int) :=
  if l.length = 2 ∧ edOk (Q.rd_T55 l 0) = true ∧ edOk (Q.rd_T55 l 1) = true then some ((ar2 (Q.rd_T55 l 0) (Q.rd_T55 l 1)).1, (ar2 (Q.rd_T55 l 0) (Q.rd_T55 l 1)).2.1, (ar2 (Q.rd_T55 l 0) (Q.rd_T55 l 1)).2.2.1, (ar2 (Q.rd_T55 l 0) (Q.rd_T55 l 1)).2.2.2, 0) else none
/-- The state of the second loop: the cells of the two stretches. -/
def arS (x y : S55) (k : Nat) : Int × Int × Int × Int := if k = 0 then (0, 0, 0, 0) else if k = 1 then ar1 x else ar2 x y

theorem two_set {W : World} {b t : Nat} {u0 u1 v0 v1 : Value} (h : W.heap[b]? = some (.cells #[u0, u1] t (0, 0))) : ((W.setCell ⟨b, 0, none⟩ v0).setCell ⟨b, 1, none⟩ v1).heap[b]? = some (.cells #[v0, v1] t (0, 0)) := by
  simp [World.setCell, Array.getElem?_modify, h]
theorem far_set {W : World} {k b i : Nat} {v : Value} {o : Obj} (h : W.heap[k]? = some o) (hne : ¬ k = b) : (W.setCell ⟨b, i, none⟩ v).heap[k]? = some o := (Below.heap_setCell W ⟨b, i, none⟩ v k hne).trans h
theorem far1 {W : World} {b c i j : Nat} {v u : Value} (h : W.cell? ⟨c, j, none⟩ = some u) (hne : ¬ (c = b ∧ j = i)) : (W.setCell ⟨b, i, none⟩ v).cell? ⟨c, j, none⟩ = some u :=
  (World.cell?_setCell_other W ⟨b, i, none⟩ ⟨c, j, none⟩ v (fun e => hne (by injection e with e1 e2; exact ⟨e1.symm, e2.symm⟩))).trans h
theorem same2 {W : World} {b : Nat} {v0 v1 : Value} (h0 : W.cell? ⟨b, 0, none⟩ = some v0) (h1 : W.cell? ⟨b, 1, none⟩ = some v1) :
    ((W.setCell ⟨b, 0, none⟩ v0).setCell ⟨b, 1, none⟩ v1).drew.cell? ⟨b, 0, none⟩ = some v0 ∧ ((W.setCell ⟨b, 0, none⟩ v0).setCell ⟨b, 1, none⟩ v1).drew.cell? ⟨b, 1, none⟩ = some v1 := by
  have e0 : (W.setCell ⟨b, 0, none⟩ v0).cell? ⟨b, 0, none⟩ = some v0 := World.cell?_setCell_same' W ⟨b, 0, none⟩ v0 (by rw [h0]; rfl)
  have e1 : (W.setCell ⟨b, 0, none⟩ v0).cell? ⟨b, 1, none⟩ = some v1 := far1 h1 (by omega)
  have e2 : ((W.setCell ⟨b, 0, none⟩ v0).setCell ⟨b, 1, none⟩ v1).cell? ⟨b, 1, none⟩ = some v1 := World.cell?_setCell_same' _ ⟨b, 1, none⟩ v1 (by rw [e1]; rfl)
  exact ⟨far1 e0 (by omega), e2⟩
theorem far2 {W : World} {b c j : Nat} {v0 v1 u : Value} (h : W.cell? ⟨c, j, none⟩ = some u) (hne : ¬ c = b) : ((W.setCell ⟨b, 0, none⟩ v0).setCell ⟨b, 1, none⟩ v1).drew.cell? ⟨c, j, none⟩ = some u :=
  far1 (far1 h (by omega)) (by omega)
attribute [local go_sem] max2_int min2_int max_two min_two
set_option maxHeartbeats 8000000 in
set_option maxRecDepth 100000 in
theorem edits_Around.calls (A0 : Option Addr) (c0 : Nat) (l0 : List S55) (r1 r2 r3 r4 r5 : Int) (w : World) (hr0 : Kd.C k55 w A0 l0.length l0) (_hc0 : l0.length ≤ c0) (h : edits_Around.f l0 = some (r1, r2, r3, r4, r5)) :
    Calls Tryd.prog 30 #[.slice A0 l0.length c0] w fun e w' => e = .returned (.tuple #[.agg #[.int .i64 r1, .int .i64 r2], .agg #[.int .i64 r3, .int .i64 r4], .int .i64 r5]) ∧ Below w.heap.size w w' := by
  unfold edits_Around.f at h
  by_cases hc : l0.length = 2 ∧ edOk (Q.rd_T55 l0 0) = true ∧ edOk (Q.rd_T55 l0 1) = true
  · rw [if_pos hc] at h
    obtain ⟨hl, hx, hy⟩ := hc
    have HX := of_decide_eq_true hx
    have HY := of_decide_eq_true hy
    obtain ⟨ad, e0, a0, a1, a2⟩ := Q.at_T55 hr0 0 (by omega) (by omega)
    obtain ⟨ad', e1, b0, b1, b2⟩ := Q.at_T55 hr0 1 (by omega) (by omega)
    cases e0
    cases e1
    simp only [Option.some.injEq, Prod.mk.injEq] at h
    obtain ⟨q1, q2, q3, q4, rfl⟩ := h
    have Q1 := Aside0.mk q1
    have Q2 := Aside0.mk q2
    have Q3 := Aside0.mk q3
    have Q4 := Aside0.mk q4
    clear q1 q2 q3 q4 hr0 hx hy
    rw [hl]
    generalize Q.rd_T55 l0 0 = x at *
    generalize Q.rd_T55 l0 1 = y at *
    clear hl
    obtain ⟨x0, x1, x2⟩ := x
    obtain ⟨y0, y1, y2⟩ := y
    simp only at HX HY a0 a1 a2 b0 b1 b2
    obtain ⟨hx0, hx1, hx2, hx3⟩ := HX
    obtain ⟨hy0, hy1, hy2, hy3⟩ := HY
    simp only [Int.toNat_zero, Int.toNat_one, Nat.zero_mul, Nat.one_mul] at a0 a1 a2 b0 b1 b2
    have e00 : ad.add 0 = ad := by simp [Addr.add]
    rw [e00] at a0 a1 a2
    clear e00
    have e33 : ad.add 3 = ⟨ad.block, ad.off + 3, none⟩ := by simp [Addr.add]
    rw [e33] at b0 b1 b2
    clear e33
    simp only [Nat.add_assoc, Nat.reduceAdd] at b1 b2
    go_enter Tryd.func30, Tryd.ntmps30
    have dx0 : decide (x0 < 0) = false := decide_eq_false (by omega)
    have dx1 : decide (x1 < x0) = false := decide_eq_false (by omega)
    have dx2 : decide (1099511627776 < x1) = false := decide_eq_false (by omega)
    have dy0 : decide (y0 < 0) = false := decide_eq_false (by omega)
    have dy1 : decide (y1 < y0) = false := decide_eq_false (by omega)
    have dy2 : decide (1099511627776 < y1) = false := decide_eq_false (by omega)
    go_wp2
    have HB0 := Aside0.mk (((Below.refl w.heap.size w).alloc (Nat.le_refl _) (Obj.cells #[.int .i64 0, .int .i64 0] 39)).alloc (by simp) (Obj.cells #[.int .i64 0, .int .i64 0] 39))
    have H10 := Aside0.mk (blk_alloc (blk_new w (Obj.cells #[.int .i64 0, .int .i64 0] 39)) (Obj.cells #[.int .i64 0, .int .i64 0] 39))
    have H20 : Aside0 (((w.alloc (Obj.cells #[.int .i64 0, .int .i64 0] 39)).alloc (Obj.cells #[.int .i64 0, .int .i64 0] 39)).heap[w.heap.size + 1]? = some (Obj.cells #[.int .i64 0, .int .i64 0] 39)) := ⟨by have h := blk_new (w.alloc (Obj.cells #[.int .i64 0, .int .i64 0] 39)) (Obj.cells #[.int .i64 0, .int .i64 0] 39); rwa [World.size_alloc] at h⟩
    have la := World.block_lt_of_cell? w _ a0
    have A0_ := Aside0.mk (And.intro a0 (And.intro a1 a2))
    have B0_ := Aside0.mk (And.intro b0 (And.intro b1 b2))
    clear a0 a1 a2 b0 b1 b2
    generalize (w.alloc (Obj.cells #[.int .i64 0, .int .i64 0] 39)).alloc (Obj.cells #[.int .i64 0, .int .i64 0] 39) = W0 at HB0 H10 H20 ⊢
    refine wp_loop_rounds 3 ?_
    rw [rounds_succ]
    have c0_ := (HB0.out.cell (World.block_lt_of_cell? w _ A0_.out.1)).trans A0_.out.1
    have c1_ := (HB0.out.cell (World.block_lt_of_cell? w _ A0_.out.2.1)).trans A0_.out.2.1
    have c2_ := (HB0.out.cell (World.block_lt_of_cell? w _ A0_.out.2.2)).trans A0_.out.2.2
    go_wp2
    clear c0_ c1_ c2_
    have HB1 := Aside0.mk (HB0.out.alloc HB0.out.size (Obj.cells #[.int .i64 x0, .int .i64 x1, .string x2] 55))
    have H11 := Aside0.mk (blk_alloc H10.out (Obj.cells #[.int .i64 x0, .int .i64 x1, .string x2] 55))
    have H21 := Aside0.mk (blk_alloc H20.out (Obj.cells #[.int .i64 x0, .int .i64 x1, .string x2] 55))
    generalize W0.alloc (Obj.cells #[.int .i64 x0, .int .i64 x1, .string x2] 55) = W1 at HB1 H11 H21 ⊢
    rw [rounds_succ]
    have d0_ := (HB1.out.cell (World.block_lt_of_cell? w _ B0_.out.1)).trans B0_.out.1
    have d1_ := (HB1.out.cell (World.block_lt_of_cell? w _ B0_.out.2.1)).trans B0_.out.2.1
    have d2_ := (HB1.out.cell (World.block_lt_of_cell? w _ B0_.out.2.2)).trans B0_.out.2.2
    go_wp2
    clear d0_ d1_ d2_
    have HB2 := Aside0.mk (HB1.out.alloc HB1.out.size (Obj.cells #[.int .i64 y0, .int .i64 y1, .string y2] 55))
    have H12 := Aside0.mk (blk_alloc H11.out (Obj.cells #[.int .i64 y0, .int .i64 y1, .string y2] 55))
    have H22 := Aside0.mk (blk_alloc H21.out (Obj.cells #[.int .i64 y0, .int .i64 y1, .string y2] 55))
    generalize W1.alloc (Obj.cells #[.int .i64 y0, .int .i64 y1, .string y2] 55) = W2 at HB2 H12 H22 ⊢
    rw [rounds_succ]
    go_wp2
    refine wp_loop_rounds 3 ?_
    rw [rounds_succ]
    have c0_ := (HB2.out.cell (World.block_lt_of_cell? w _ A0_.out.1)).trans A0_.out.1
    have c1_ := (HB2.out.cell (World.block_lt_of_cell? w _ A0_.out.2.1)).trans A0_.out.2.1
    have c2_ := (HB2.out.cell (World.block_lt_of_cell? w _ A0_.out.2.2)).trans A0_.out.2.2
    go_wp2
    clear c0_ c1_ c2_
    have HN := Aside0.mk (blk_new W2 (Obj.cells #[.int .i64 x0, .int .i64 x1, .string x2] 55))
    have HB3 := Aside0.mk (HB2.out.alloc HB2.out.size (Obj.cells #[.int .i64 x0, .int .i64 x1, .string x2] 55))
    have H13 := Aside0.mk (blk_alloc H12.out (Obj.cells #[.int .i64 x0, .int .i64 x1, .string x2] 55))
    have H23 := Aside0.mk (blk_alloc H22.out (Obj.cells #[.int .i64 x0, .int .i64 x1, .string x2] 55))
    generalize W2.alloc (Obj.cells #[.int .i64 x0, .int .i64 x1, .string x2] 55) = W3 at HB3 H13 H23 HN ⊢
    have hB1 : w.heap.size < W2.heap.size := by
      rcases Nat.lt_or_ge w.heap.size W2.heap.size with h | h
      · exact h
      · have := H12.out; rw [Array.getElem?_eq_none h] at this; cases this
    have hB2 : w.heap.size + 1 < W2.heap.size := by
      rcases Nat.lt_or_ge (w.heap.size + 1) W2.heap.size with h | h
      · exact h
      · have := H22.out; rw [Array.getElem?_eq_none h] at this; cases this
    generalize W2.heap.size = g at HN hB1 hB2 ⊢
    have ng1 : ¬ g = w.heap.size := by omega
    have ng2 : ¬ g = w.heap.size + 1 := by omega
    have ng3 : ¬ w.heap.size = g := by omega
    have ng4 : ¬ w.heap.size + 1 = g := by omega
    clear hB1 hB2
    have n0 := blk_cell HN.out 0
    have n1 := blk_cell HN.out 1
    have n2 := blk_cell HN.out 2
    have m0 := blk_cell H13.out 0
    have m1 := blk_cell H13.out 1
    have m0f := blk_frozen H13.out 0
    have m1f := blk_frozen H13.out 1
    have k0 := blk_cell H23.out 0
    have k1 := blk_cell H23.out 1
    have k0f := blk_frozen H23.out 0
    have k1f := blk_frozen H23.out 1
    simp only [List.getElem?_toArray, List.getElem?_cons_zero, List.getElem?_cons_succ] at n0 n1 n2 m0 m1 k0 k1
    go_region_held3 (fun w' => w'.cell? ⟨g, 0, none⟩ = some (.int .i64 x0) ∧ w'.cell? ⟨g, 1, none⟩ = some (.int .i64 x1)) (go_keep) (fail)
    rename_i hHeld_
    clear hHeld_
    have HB4 := Aside0.mk ((((((HB3.out.setCell (p := ⟨w.heap.size, 0, none⟩) (Nat.le_refl _) (.int .i64 x0)).setCell (p := ⟨w.heap.size, 1, none⟩) (Nat.le_refl _) (.int .i64 x1)).setCell (p := ⟨w.heap.size + 1, 0, none⟩) (by simp) (.int .i64 x0)).setCell (p := ⟨w.heap.size + 1, 1, none⟩) (by simp) (.int .i64 x1))).drew)
    have H14 := Aside0.mk (blk_drew (far_set (far_set (two_set (v0 := .int .i64 x0) (v1 := .int .i64 x1) H13.out) (b := w.heap.size + 1) (i := 0) (v := .int .i64 x0) (by omega)) (b := w.heap.size + 1) (i := 1) (v := .int .i64 x1) (by omega)))
    have H24 := Aside0.mk (blk_drew (two_set (v0 := .int .i64 x0) (v1 := .int .i64 x1) (far_set (far_set H23.out (b := w.heap.size) (i := 0) (v := .int .i64 x0) (by omega)) (b := w.heap.size) (i := 1) (v := .int .i64 x1) (by omega))))
    have HN4 := Aside0.mk (blk_drew (far_set (far_set (far_set (far_set HN.out (b := w.heap.size) (i := 0) (v := .int .i64 x0) ng1) (b := w.heap.size) (i := 1) (v := .int .i64 x1) ng1) (b := w.heap.size + 1) (i := 0) (v := .int .i64 x0) ng2) (b := w.heap.size + 1) (i := 1) (v := .int .i64 x1) ng2))
    clear n0 n1 n2 m0 m1 m0f m1f k0 k1 k0f k1f
    generalize ((((W3.setCell ⟨w.heap.size, 0, none⟩ (.int .i64 x0)).setCell ⟨w.heap.size, 1, none⟩ (.int .i64 x1)).setCell ⟨w.heap.size + 1, 0, none⟩ (.int .i64 x0)).setCell ⟨w.heap.size + 1, 1, none⟩ (.int .i64 x1)).drew = W4 at HB4 H14 H24 HN4 ⊢
    have n0 := blk_cell HN4.out 0
    have n1 := blk_cell HN4.out 1
    have n2 := blk_cell HN4.out 2
    have m0 := blk_cell H14.out 0
    have m1 := blk_cell H14.out 1
    have m0f := blk_frozen H14.out 0
    have m1f := blk_frozen H14.out 1
    have k0 := blk_cell H24.out 0
    have k1 := blk_cell H24.out 1
    have k0f := blk_frozen H24.out 0
    have k1f := blk_frozen H24.out 1
    simp only [List.getElem?_toArray, List.getElem?_cons_zero, List.getElem?_cons_succ] at n0 n1 n2 m0 m1 k0 k1
    go_wp2
    go_region_held3 (fun w' => w'.cell? ⟨g, 0, none⟩ = some (.int .i64 x0) ∧ w'.cell? ⟨g, 1, none⟩ = some (.int .i64 x1) ∧ w'.cell? ⟨w.heap.size + 1, 0, none⟩ = some (.int .i64 x0) ∧ w'.cell? ⟨w.heap.size + 1, 1, none⟩ = some (.int .i64 x1)) (go_keep) (fail)
    all_goals go_wp2
    all_goals
      rename_i hHeld_
      clear hHeld_
      have HB5 := Aside0.mk (((((((HB4.out.setCell (p := ⟨w.heap.size, 0, none⟩) (Nat.le_refl _) (.int .i64 x0)).setCell (p := ⟨w.heap.size, 1, none⟩) (Nat.le_refl _) (.int .i64 x1)).setCell (p := ⟨w.heap.size + 1, 0, none⟩) (by simp) (.int .i64 x0)).setCell (p := ⟨w.heap.size + 1, 1, none⟩) (by simp) (.int .i64 (x1 - (x1 - x0) + x2.size)))).drew))
      have H15 := Aside0.mk (blk_drew (far_set (far_set (two_set (v0 := .int .i64 x0) (v1 := .int .i64 x1) H14.out) (b := w.heap.size + 1) (i := 0) (v := .int .i64 x0) (by omega)) (b := w.heap.size + 1) (i := 1) (v := .int .i64 (x1 - (x1 - x0) + x2.size)) (by omega)))
      have H25 := Aside0.mk (blk_drew (two_set (v0 := .int .i64 x0) (v1 := .int .i64 (x1 - (x1 - x0) + x2.size)) (far_set (far_set H24.out (b := w.heap.size) (i := 0) (v := .int .i64 x0) (by omega)) (b := w.heap.size) (i := 1) (v := .int .i64 x1) (by omega))))
      clear n0 n1 n2 m0 m1 m0f m1f k0 k1 k0f k1f HN4 HN
      generalize ((((W4.setCell ⟨w.heap.size, 0, none⟩ (.int .i64 x0)).setCell ⟨w.heap.size, 1, none⟩ (.int .i64 x1)).setCell ⟨w.heap.size + 1, 0, none⟩ (.int .i64 x0)).setCell ⟨w.heap.size + 1, 1, none⟩ (.int .i64 (x1 - (x1 - x0) + x2.size))).drew = W5 at HB5 H15 H25 ⊢
      obtain ⟨nw, hnw⟩ : ∃ nw : Int, x1 - (x1 - x0) + (x2.size : Int) = nw := ⟨_, rfl⟩
      have hnw0 : 0 ≤ nw := by omega
      have hnw1 : nw ≤ 300000 := by omega
      rw [hnw] at H25
      have HNW := Aside0.mk hnw
      clear hnw ng1 ng2 ng3 ng4
      rw [rounds_succ]
      have d0_ := (HB5.out.cell (World.block_lt_of_cell? w _ B0_.out.1)).trans B0_.out.1
      have d1_ := (HB5.out.cell (World.block_lt_of_cell? w _ B0_.out.2.1)).trans B0_.out.2.1
      have d2_ := (HB5.out.cell (World.block_lt_of_cell? w _ B0_.out.2.2)).trans B0_.out.2.2
      go_wp2
      clear d0_ d1_ d2_
      have hB1 : w.heap.size < W5.heap.size := by
        rcases Nat.lt_or_ge w.heap.size W5.heap.size with h | h
        · exact h
        · have := H15.out; rw [Array.getElem?_eq_none h] at this; cases this
      have hB2 : w.heap.size + 1 < W5.heap.size := by
        rcases Nat.lt_or_ge (w.heap.size + 1) W5.heap.size with h | h
        · exact h
        · have := H25.out; rw [Array.getElem?_eq_none h] at this; cases this
      have HM := Aside0.mk (blk_new W5 (Obj.cells #[.int .i64 y0, .int .i64 y1, .string y2] 55))
      have HB6 := Aside0.mk (HB5.out.alloc HB5.out.size (Obj.cells #[.int .i64 y0, .int .i64 y1, .string y2] 55))
      have H16 := Aside0.mk (blk_alloc H15.out (Obj.cells #[.int .i64 y0, .int .i64 y1, .string y2] 55))
      have H26 := Aside0.mk (blk_alloc H25.out (Obj.cells #[.int .i64 y0, .int .i64 y1, .string y2] 55))
      generalize W5.alloc (Obj.cells #[.int .i64 y0, .int .i64 y1, .string y2] 55) = W6 at HM HB6 H16 H26 ⊢
      generalize W5.heap.size = q at HM hB1 hB2 ⊢
      have ng1 : ¬ q = w.heap.size := by omega
      have ng2 : ¬ q = w.heap.size + 1 := by omega
      have ng3 : ¬ w.heap.size = q := by omega
      have ng4 : ¬ w.heap.size + 1 = q := by omega
      clear hB1 hB2
      obtain ⟨mi, hmi⟩ : ∃ mi : Int, (if y0 < x0 then y0 else x0) = mi := ⟨_, rfl⟩
      obtain ⟨ma, hma⟩ : ∃ ma : Int, (if nw < y1 then y1 else nw) = ma := ⟨_, rfl⟩
      have hmi0 : 0 ≤ mi := by omega
      have hmi1 : mi ≤ 100000 := by omega
      have hma0 : 0 ≤ ma := by omega
      have hma1 : ma ≤ 300000 := by omega
      have HMI := Aside0.mk hmi
      have HMA := Aside0.mk hma
      have n0 := blk_cell HM.out 0
      have n1 := blk_cell HM.out 1
      have n2 := blk_cell HM.out 2
      have m0 := blk_cell H16.out 0
      have m1 := blk_cell H16.out 1
      have m0f := blk_frozen H16.out 0
      have m1f := blk_frozen H16.out 1
      have k0 := blk_cell H26.out 0
      have k1 := blk_cell H26.out 1
      have k0f := blk_frozen H26.out 0
      have k1f := blk_frozen H26.out 1
      simp only [List.getElem?_toArray, List.getElem?_cons_zero, List.getElem?_cons_succ] at n0 n1 n2 m0 m1 k0 k1
      go_region_held3 (fun w' => w'.cell? ⟨q, 0, none⟩ = some (.int .i64 y0) ∧ w'.cell? ⟨q, 1, none⟩ = some (.int .i64 y1) ∧ w'.cell? ⟨w.heap.size + 1, 0, none⟩ = some (.int .i64 x0) ∧ w'.cell? ⟨w.heap.size + 1, 1, none⟩ = some (.int .i64 nw)) (go_keep) (fail)
    all_goals go_wp2
    all_goals
      rename_i hHeld_
      clear hHeld_ hmi hma
      have HB7 := Aside0.mk ((((((HB6.out.setCell (p := ⟨w.heap.size, 0, none⟩) (Nat.le_refl _) (.int .i64 mi)).setCell (p := ⟨w.heap.size, 1, none⟩) (Nat.le_refl _) (.int .i64 (x1 + ma - nw))).setCell (p := ⟨w.heap.size + 1, 0, none⟩) (by simp) (.int .i64 mi)).setCell (p := ⟨w.heap.size + 1, 1, none⟩) (by simp) (.int .i64 (ma - (y1 - y0) + y2.size)))).drew)
      have H17 := Aside0.mk (blk_drew (far_set (far_set (two_set (v0 := .int .i64 mi) (v1 := .int .i64 (x1 + ma - nw)) H16.out) (b := w.heap.size + 1) (i := 0) (v := .int .i64 mi) (by omega)) (b := w.heap.size + 1) (i := 1) (v := .int .i64 (ma - (y1 - y0) + y2.size)) (by omega)))
      have H27 := Aside0.mk (blk_drew (two_set (v0 := .int .i64 mi) (v1 := .int .i64 (ma - (y1 - y0) + y2.size)) (far_set (far_set H26.out (b := w.heap.size) (i := 0) (v := .int .i64 mi) (by omega)) (b := w.heap.size) (i := 1) (v := .int .i64 (x1 + ma - nw)) (by omega))))
      clear n0 n1 n2 m0 m1 m0f m1f k0 k1 k0f k1f HM
      generalize ((((W6.setCell ⟨w.heap.size, 0, none⟩ (.int .i64 mi)).setCell ⟨w.heap.size, 1, none⟩ (.int .i64 (x1 + ma - nw))).setCell ⟨w.heap.size + 1, 0, none⟩ (.int .i64 mi)).setCell ⟨w.heap.size + 1, 1, none⟩ (.int .i64 (ma - (y1 - y0) + y2.size))).drew = W7 at HB7 H17 H27 ⊢
      have e1 : mi = r1 := HMI.out.symm.trans Q1.out
      have e3 : mi = r3 := HMI.out.symm.trans Q3.out
      have e2 : x1 + ma - nw = r2 := by
        rw [← HMA.out, ← HNW.out]
        exact Q2.out
      have e4 : ma - (y1 - y0) + y2.size = r4 := by
        rw [← HMA.out, ← HNW.out]
        exact Q4.out
      rw [e1, e2] at H17
      rw [e1, e4] at H27
      have E13 := Aside0.mk (e1.symm.trans e3)
      clear e1 e2 e3 e4 ng1 ng2 ng3 ng4 hmi0 hmi1 hma0 hma1 hnw0 hnw1 dx0 dx1 dx2 dy0 dy1 dy2
      rw [rounds_succ]
      go_wp2
      have m0 := blk_cell H17.out 0
      have m1 := blk_cell H17.out 1
      have m0f := blk_frozen H17.out 0
      have m1f := blk_frozen H17.out 1
      have k0 := blk_cell H27.out 0
      have k1 := blk_cell H27.out 1
      have k0f := blk_frozen H27.out 0
      have k1f := blk_frozen H27.out 1
      simp only [List.getElem?_toArray, List.getElem?_cons_zero, List.getElem?_cons_succ] at m0 m1 k0 k1
      go_region_held3 (fun w' => w'.cell? ⟨w.heap.size, 0, none⟩ = some (.int .i64 r1) ∧ w'.cell? ⟨w.heap.size, 1, none⟩ = some (.int .i64 r2) ∧ w'.cell? ⟨w.heap.size + 1, 0, none⟩ = some (.int .i64 r1) ∧ w'.cell? ⟨w.heap.size + 1, 1, none⟩ = some (.int .i64 r4)) (first | exact ⟨m0, m1, k0, k1⟩ | exact ⟨(same2 m0 m1).1, (same2 m0 m1).2, far2 k0 (by omega), far2 k1 (by omega)⟩ | exact ⟨far2 (same2 m0 m1).1 (by omega), far2 (same2 m0 m1).2 (by omega), (same2 (far2 k0 (by omega)) (far2 k1 (by omega))).1, (same2 (far2 k0 (by omega)) (far2 k1 (by omega))).2⟩) (fail)
      have HB8 := Aside0.mk ((((((HB7.out.setCell (p := ⟨w.heap.size, 0, none⟩) (Nat.le_refl _) (.int .i64 r1)).setCell (p := ⟨w.heap.size, 1, none⟩) (Nat.le_refl _) (.int .i64 r2)).setCell (p := ⟨w.heap.size + 1, 0, none⟩) (by simp) (.int .i64 r1)).setCell (p := ⟨w.heap.size + 1, 1, none⟩) (by simp) (.int .i64 r4))).drew)
      rename_i hHeld_
      clear m0 m1 m0f m1f k0 k1 k0f k1f H17 H27
      generalize ((((W7.setCell ⟨w.heap.size, 0, none⟩ (.int .i64 r1)).setCell ⟨w.heap.size, 1, none⟩ (.int .i64 r2)).setCell ⟨w.heap.size + 1, 0, none⟩ (.int .i64 r1)).setCell ⟨w.heap.size + 1, 1, none⟩ (.int .i64 r4)).drew = W8 at HB8 hHeld_ ⊢
      obtain ⟨z0, z1, z2, z3⟩ := hHeld_
      have e := E13.out
      subst e
      go_wp2
      refine bodyPost_ret (v := .tuple #[.agg #[.int .i64 r1, .int .i64 r2], .agg #[.int .i64 r1, .int .i64 r4], .int .i64 0]) ?_ rfl ⟨rfl, HB8.out⟩
      simp [results, Tryd.results30, go_sem, z0, z1, z2, z3]
  · rw [if_neg hc] at h; cases h
end Go.Proofs.YtdnkjfcndjmdbaaDoor.G
