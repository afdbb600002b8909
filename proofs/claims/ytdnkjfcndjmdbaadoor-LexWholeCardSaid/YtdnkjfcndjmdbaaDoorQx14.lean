-- WRITTEN BY wip/mprint.py, which runs the kit's print program with some functions taken as given (their contracts are proved by hand). Not trusted: Lean checks it.
import Derived.Test.YtdnkjfcndjmdbaaDoorQx0
import Derived.Test.YtdnkjfcndjmdbaaDoorQx1
import Derived.Test.YtdnkjfcndjmdbaaDoorGe
import Derived.Test.YtdnkjfcndjmdbaaDoorGj
import Derived.Test.YtdnkjfcndjmdbaaDoorGk
import Derived.Test.YtdnkjfcndjmdbaaDoorGl
namespace Go.Proofs.YtdnkjfcndjmdbaaDoor.Q
open Go.RowKit Go.Proofs.YtdnkjfcndjmdbaaDoorW.PrintWords Go.Proofs.YtdnkjfcndjmdbaaDoorW.PrintLast Go.Proofs.YtdnkjfcndjmdbaaDoorW.PrintMore
attribute [local go_sem] max2_int min2_int max_two min_two max_three min_three max_four min_four   -- for this text's walks alone
set_option linter.unusedVariables false
set_option linter.unusedSimpArgs false

attribute [local go_sem high] eqA23
/-! ### lex_Next: function 57 -/
def lex_Next.l0 : Nat → List (S23) → Int → Option (Int)
  | 0, _, _ => none
  | k + 1, x0, x5 => if x5 < (x0.length : Int) then (if 0 ≤ x5 then ((G.lex_Counts.f ((rd_T23 x0 x5).f0)).bind fun t254 => (if t254 = true then (some x5) else (lex_Next.l0 k x0 (wrap64 (x5 + 1))))) else (none)) else (some (x0.length : Int))
def lex_Next.f (k : Nat) (l0 : List (S23)) (a1 : Int) : Option (Int) := lex_Next.l0 k l0 (mx a1 0)
theorem lex_Next.mono_l : ∀ k, (∀ y0 y1, LeO (lex_Next.l0 k y0 y1) (lex_Next.l0 (k + 1) y0 y1))
  | 0 => fun _ _ r h => by simp [lex_Next.l0] at h
  | k + 1 => by
    have ih0 := lex_Next.mono_l k
    · intro y0 y1
      unfold lex_Next.l0
      repeat' first
      | (with_reducible exact ih0 _ _)
      | (with_reducible exact LeO.refl _)
      | (with_reducible exact LeO.none _)
      | (with_reducible refine LeO.ite ?_ ?_)
      | (with_reducible refine LeO.bind ?_ (fun _ => ?_))
      | exact ih0 _ _
      | exact LeO.none _
      | refine LeO.ite ?_ ?_
      | refine LeO.bind ?_ (fun _ => ?_)
theorem lex_Next.mono : ∀ a0 a1 k, LeO (lex_Next.f k a0 a1) (lex_Next.f (k + 1) a0 a1) := by
  intro a0 a1 k
  have ih0 := lex_Next.mono_l k
  unfold lex_Next.f
  repeat' first
      | (with_reducible exact ih0 _ _)
      | (with_reducible exact LeO.refl _)
      | (with_reducible exact LeO.none _)
      | (with_reducible refine LeO.ite ?_ ?_)
      | (with_reducible refine LeO.bind ?_ (fun _ => ?_))
      | exact ih0 _ _
      | exact LeO.none _
      | refine LeO.ite ?_ ?_
      | refine LeO.bind ?_ (fun _ => ?_)
set_option maxHeartbeats 8000000 in
set_option maxRecDepth 100000 in
theorem lex_Next.calls (k : Nat) (A0 : Option Addr) (c0 : Nat) (l0 : List (S23)) (a1 : Int) (r : Int) (w : World) (hr0 : Kd.C k23 w A0 l0.length l0) (hc0 : l0.length ≤ c0) (h : lex_Next.f k l0 a1 = some r) :
    Calls Tryd.prog 57 #[.slice A0 l0.length c0, .int .i64 a1] w fun e w' => e = .returned (.int .i64 r) ∧ Below w.heap.size w w' := by
  have HR0 := Aside0.mk hr0
  have HC0 := Aside0.mk hc0
  clear hr0 hc0
  have HB := Aside0.mk (Below.refl w.heap.size w)
  have H : (lex_Next.l0 k l0 (mx a1 0)) = some r := h
  clear h
  obtain ⟨ji3, hji3⟩ : ∃ j_ : Int, (mx a1 0) = j_ := ⟨_, rfl⟩
  replace H : (lex_Next.l0 k l0 ji3) = some r := by first | (rw [hji3] at H; exact H) | (simp only [hji3] at H ⊢; exact H)
  (try (have hji3l : 0 ≤ ji3 := by (rw [← hji3]; unfold mx; (repeat' split) <;> omega)))
  (try (have hji3m : 0 ≤ ji3 := by omega))
  have hji3_ : (if a1 < 0 then 0 else a1) = ji3 := hji3
  have H' := Aside0.mk H
  clear H
  go_enter Tryd.func57, Tryd.ntmps57
  go_wp2
  go_loopg [5] k (fun kq v5 w' => ∃ (x5_1 : Int), v5 = .int .i64 x5_1 ∧ Aside0 (lex_Next.l0 kq l0 x5_1 = some r) ∧ Aside0 (kq ≤ k) ∧ Aside0 (Below w.heap.size w w'))
  case atStart => exact ⟨(ji3), (by first | rfl | (simp; done) | (simp only [← hji3] <;> (first | rfl | simp)) | (simp [*]; done)), H', ⟨Nat.le_refl _⟩, ⟨by repeat (first | (with_reducible first | exact HB.out | apply below_alloc | apply pw_below_drewN | apply below_drew1) | exact HB.out)⟩⟩
  case round =>
    clear H'
    try clear p2
    obtain ⟨x5_1, rfl, HA, HK1, HB⟩ := hrel
    cases gk with
    | zero => exact absurd HA.out (by simp [lex_Next.l0])
    | succ k1 =>
      have H := HA.out
      clear HA
      simp only [lex_Next.l0] at H
      by_cases c4 : x5_1 < (l0.length : Int)
      · rw [if_pos c4] at H
        have c4b0 : decide (x5_1 < (l0.length : Int)) = true := decide_eq_true c4
        clear c4
        by_cases c5 : 0 ≤ x5_1
        · rw [if_pos c5] at H
          have c5b0 : decide (0 ≤ x5_1) = true := decide_eq_true c5
          clear c5
          replace H := Option.bind_eq_some_iff.mp H
          obtain ⟨t254, A60, H⟩ := H
          replace H : (if t254 = true then (some x5_1) else (lex_Next.l0 k1 l0 (wrap64 (x5_1 + 1)))) = some r := H
          have A6 := Aside0.mk A60
          clear A60
          by_cases c7 : t254 = true
          · subst c7
            have H1 : (some x5_1) = some r := by rw [if_pos rfl] at H; exact H
            clear H
            have H := H1
            clear H1
            obtain rfl := Option.some.inj H
            have p253 : 0 ≤ (x5_1 : Int) := of_decide_eq_true (by first | (with_reducible assumption) | assumption)
            have q253 : x5_1 < (l0.length : Int) := of_decide_eq_true (by first | (with_reducible assumption) | assumption)
            obtain ⟨ad253, e253, hx253_0, hx253_1, hx253_2⟩ := at_T23 HR0.out x5_1 p253 q253
            cases e253
            replace hx253_0 := (HB.out.cell (World.block_lt_of_cell? w _ hx253_0)).trans hx253_0
            replace hx253_1 := (HB.out.cell (World.block_lt_of_cell? w _ hx253_1)).trans hx253_1
            replace hx253_2 := (HB.out.cell (World.block_lt_of_cell? w _ hx253_2)).trans hx253_2
            replace p253 := eq_true p253
            replace q253 := eq_true q253
            go_wp2_with (first | ((with_reducible refine gate_callee (f := 77) rfl ?_); refine goesL_ (some 19) rfl rfl Tryd.func77 (by kernel_rfl) rfl #[.int .u8 ((rd_T23 l0 x5_1).f0)] rfl (by (try simp only [List.map_toArray, List.map_cons, List.map_nil]); first | done | rfl | (simp only [List.length_drop, List.length_take]; rfl)) ?_; (with_reducible refine (G.lex_Counts.calls ((rd_T23 l0 x5_1).f0) true _ A6.out).mono ?_); rintro e w8 ⟨rfl, hb⟩; refine ⟨_, rfl, ?_⟩; have n0_ := Aside0.mk (below_step (by repeat (first | (with_reducible first | exact HB.out | apply below_alloc | apply pw_below_drewN | apply below_drew1) | exact HB.out)) hb); clear HB; have HB := n0_; clear n0_; (try clear hb); (try clear hb2); (try clear hk); (try clear hi)))
            go_ret
            exact ⟨by first | rfl | (simp [errW_none, errW_some] <;> rfl) | (simp only [← hji3]; first | rfl | (simp [errW_none, errW_some] <;> rfl)) | (simp [*, errW_none, errW_some] <;> rfl), by repeat (first | (with_reducible first | exact HB.out | apply below_alloc | apply pw_below_drewN | apply below_drew1) | exact HB.out)⟩
          · replace c7 := Bool.eq_false_iff.mpr c7
            subst c7
            have H1 : (lex_Next.l0 k1 l0 (wrap64 (x5_1 + 1))) = some r := by rw [if_neg (show ¬ (false = true) by decide)] at H; exact H
            clear H
            have H := H1
            clear H1
            have H' := Aside0.mk H
            clear H
            have p253 : 0 ≤ (x5_1 : Int) := of_decide_eq_true (by first | (with_reducible assumption) | assumption)
            have q253 : x5_1 < (l0.length : Int) := of_decide_eq_true (by first | (with_reducible assumption) | assumption)
            obtain ⟨ad253, e253, hx253_0, hx253_1, hx253_2⟩ := at_T23 HR0.out x5_1 p253 q253
            cases e253
            replace hx253_0 := (HB.out.cell (World.block_lt_of_cell? w _ hx253_0)).trans hx253_0
            replace hx253_1 := (HB.out.cell (World.block_lt_of_cell? w _ hx253_1)).trans hx253_1
            replace hx253_2 := (HB.out.cell (World.block_lt_of_cell? w _ hx253_2)).trans hx253_2
            replace p253 := eq_true p253
            replace q253 := eq_true q253
            go_wp2_with (first | ((with_reducible refine gate_callee (f := 77) rfl ?_); refine goesL_ (some 19) rfl rfl Tryd.func77 (by kernel_rfl) rfl #[.int .u8 ((rd_T23 l0 x5_1).f0)] rfl (by (try simp only [List.map_toArray, List.map_cons, List.map_nil]); first | done | rfl | (simp only [List.length_drop, List.length_take]; rfl)) ?_; (with_reducible refine (G.lex_Counts.calls ((rd_T23 l0 x5_1).f0) false _ A6.out).mono ?_); rintro e w9 ⟨rfl, hb⟩; refine ⟨_, rfl, ?_⟩; have n0_ := Aside0.mk (below_step (by repeat (first | (with_reducible first | exact HB.out | apply below_alloc | apply pw_below_drewN | apply below_drew1) | exact HB.out)) hb); clear HB; have HB := n0_; clear n0_; (try clear hb); (try clear hb2); (try clear hk); (try clear hi)))
            go_roundg k1
            case measure => have := HK1.out; omega
            case rel => exact ⟨(wrap64 (x5_1 + 1)), (by first | rfl | (simp; done) | (simp [*]; done)), H', ⟨by have := HK1.out; omega⟩, ⟨by repeat (first | (with_reducible first | exact HB.out | apply below_alloc | apply pw_below_drewN | apply below_drew1) | exact HB.out)⟩⟩
        · rw [if_neg c5] at H
          exact absurd H (by simp)
      · rw [if_neg c4] at H
        have c4b0 : decide (x5_1 < (l0.length : Int)) = false := decide_eq_false c4
        clear c4
        obtain rfl := Option.some.inj H
        go_wp2
        go_ret
        exact ⟨by first | rfl | (simp [errW_none, errW_some] <;> rfl) | (simp only [← hji3]; first | rfl | (simp [errW_none, errW_some] <;> rfl)) | (simp [*, errW_none, errW_some] <;> rfl), by repeat (first | (with_reducible first | exact HB.out | apply below_alloc | apply pw_below_drewN | apply below_drew1) | exact HB.out)⟩

/-! ### glossatorlaw12_awake: function 27 -/
def glossatorlaw12_awake.f (k : Nat)  : Option (Bool) := (G.lex_All.f (⟨#[108, 101, 116, 32, 120, 49, 61, 45, 50, 59]⟩ : ByteArray)).bind fun t255 => (if (t255.length : Int) = 7 then (if 0 < (t255.length : Int) then (if (((rd_T23 t255 0).f0) == 10 && (((rd_T23 t255 0).f1) == 3 && (((rd_T23 t255 0).f2) == 1))) = true then (if 4 < (t255.length : Int) then (if (((rd_T23 t255 4).f0) == 34 && (((rd_T23 t255 4).f1) == 1 && (((rd_T23 t255 4).f2) == 0))) = true then (if 5 < (t255.length : Int) then (if ((rd_T23 t255 5).f0) = 7 then ((G.lex_At.f k t255 9).bind fun t261 => (if t261 = 6 then ((lex_Next.f k t255 1).bind fun t262 => (some (t262 == 2))) else (some false))) else (some false)) else (none)) else (some false)) else (none)) else (some false)) else (none)) else (some false))
theorem glossatorlaw12_awake.mono : ∀ k, LeO (glossatorlaw12_awake.f k ) (glossatorlaw12_awake.f (k + 1) ) := by
  intro  k
  unfold glossatorlaw12_awake.f
  repeat' first
      | (with_reducible exact G.lex_At.mono _ _ _)
      | (with_reducible exact lex_Next.mono _ _ _)
      | (with_reducible exact LeO.refl _)
      | (with_reducible exact LeO.none _)
      | (with_reducible refine LeO.ite ?_ ?_)
      | (with_reducible refine LeO.bind ?_ (fun _ => ?_))
      | exact G.lex_At.mono _ _ _
      | exact lex_Next.mono _ _ _
      | exact LeO.none _
      | refine LeO.ite ?_ ?_
      | refine LeO.bind ?_ (fun _ => ?_)
set_option maxHeartbeats 8000000 in
set_option maxRecDepth 100000 in
theorem glossatorlaw12_awake.calls (k : Nat)  (r : Bool) (w : World) (h : glossatorlaw12_awake.f k  = some r) (hT : G.Tabs w) :
    Calls Tryd.prog 27 #[] w fun e w' => e = .returned (.bool r) ∧ Below w.heap.size w w' := by
  have HT := Aside0.mk hT
  clear hT
  have hu23 := Tryd.underlying23
  have HB := Aside0.mk (Below.refl w.heap.size w)
  have H : ((G.lex_All.f (⟨#[108, 101, 116, 32, 120, 49, 61, 45, 50, 59]⟩ : ByteArray)).bind fun t255 => (if (t255.length : Int) = 7 then (if 0 < (t255.length : Int) then (if (((rd_T23 t255 0).f0) == 10 && (((rd_T23 t255 0).f1) == 3 && (((rd_T23 t255 0).f2) == 1))) = true then (if 4 < (t255.length : Int) then (if (((rd_T23 t255 4).f0) == 34 && (((rd_T23 t255 4).f1) == 1 && (((rd_T23 t255 4).f2) == 0))) = true then (if 5 < (t255.length : Int) then (if ((rd_T23 t255 5).f0) = 7 then ((G.lex_At.f k t255 9).bind fun t261 => (if t261 = 6 then ((lex_Next.f k t255 1).bind fun t262 => (some (t262 == 2))) else (some false))) else (some false)) else (none)) else (some false)) else (none)) else (some false)) else (none)) else (some false))) = some r := h
  clear h
  replace H := Option.bind_eq_some_iff.mp H
  obtain ⟨t255, A10, H⟩ := H
  replace H : (if (t255.length : Int) = 7 then (if 0 < (t255.length : Int) then (if (((rd_T23 t255 0).f0) == 10 && (((rd_T23 t255 0).f1) == 3 && (((rd_T23 t255 0).f2) == 1))) = true then (if 4 < (t255.length : Int) then (if (((rd_T23 t255 4).f0) == 34 && (((rd_T23 t255 4).f1) == 1 && (((rd_T23 t255 4).f2) == 0))) = true then (if 5 < (t255.length : Int) then (if ((rd_T23 t255 5).f0) = 7 then ((G.lex_At.f k t255 9).bind fun t261 => (if t261 = 6 then ((lex_Next.f k t255 1).bind fun t262 => (some (t262 == 2))) else (some false))) else (some false)) else (none)) else (some false)) else (none)) else (some false)) else (none)) else (some false)) = some r := H
  have A1 := Aside0.mk A10
  clear A10
  by_cases c2 : (t255.length : Int) = 7
  · rw [if_pos c2] at H
    have c2b0 : ((t255.length : Int) == 7) = true := beq_iff_eq.mpr c2
    have c2b1 : ((t255.length : Int) != 7) = false := bne_eq_false_iff_eq.mpr c2
    clear c2
    by_cases c3 : 0 < (t255.length : Int)
    · rw [if_pos c3] at H
      have c3b0 : decide (0 < (t255.length : Int)) = true := decide_eq_true c3
      have c3b1 : decide (0 < t255.length) = true := decide_eq_true (by omega)
      clear c3
      by_cases c4 : (((rd_T23 t255 0).f0) == 10 && (((rd_T23 t255 0).f1) == 3 && (((rd_T23 t255 0).f2) == 1))) = true
      · rw [if_pos c4] at H
        have c4b0 : (((rd_T23 t255 0).f0) == 10 && (((rd_T23 t255 0).f1) == 3 && (((rd_T23 t255 0).f2) == 1))) = true := c4
        (try (have c4b1 : decide (((rd_T23 t255 0).f0) = 10 && (((rd_T23 t255 0).f1) == 3 && (((rd_T23 t255 0).f2) == 1))) = true := by simpa using c4))
        (try (have c4b2 : (((rd_T23 t255 0).f0) == 10 && (((rd_T23 t255 0).f1) == 3 && (((rd_T23 t255 0).f2) == 1))) = true := by simpa using c4))
        clear c4
        by_cases c5 : 4 < (t255.length : Int)
        · rw [if_pos c5] at H
          have c5b0 : decide (4 < (t255.length : Int)) = true := decide_eq_true c5
          have c5b1 : decide (4 < t255.length) = true := decide_eq_true (by omega)
          clear c5
          by_cases c6 : (((rd_T23 t255 4).f0) == 34 && (((rd_T23 t255 4).f1) == 1 && (((rd_T23 t255 4).f2) == 0))) = true
          · rw [if_pos c6] at H
            have c6b0 : (((rd_T23 t255 4).f0) == 34 && (((rd_T23 t255 4).f1) == 1 && (((rd_T23 t255 4).f2) == 0))) = true := c6
            (try (have c6b1 : decide (((rd_T23 t255 4).f0) = 34 && (((rd_T23 t255 4).f1) == 1 && (((rd_T23 t255 4).f2) == 0))) = true := by simpa using c6))
            (try (have c6b2 : (((rd_T23 t255 4).f0) == 34 && (((rd_T23 t255 4).f1) == 1 && (((rd_T23 t255 4).f2) == 0))) = true := by simpa using c6))
            clear c6
            by_cases c7 : 5 < (t255.length : Int)
            · rw [if_pos c7] at H
              have c7b0 : decide (5 < (t255.length : Int)) = true := decide_eq_true c7
              have c7b1 : decide (5 < t255.length) = true := decide_eq_true (by omega)
              clear c7
              by_cases c8 : ((rd_T23 t255 5).f0) = 7
              · rw [if_pos c8] at H
                have c8b0 : (((rd_T23 t255 5).f0) == 7) = true := beq_iff_eq.mpr c8
                have c8b1 : (((rd_T23 t255 5).f0) != 7) = false := bne_eq_false_iff_eq.mpr c8
                clear c8
                replace H := Option.bind_eq_some_iff.mp H
                obtain ⟨t261, A90, H⟩ := H
                replace H : (if t261 = 6 then ((lex_Next.f k t255 1).bind fun t262 => (some (t262 == 2))) else (some false)) = some r := H
                have A9 := Aside0.mk A90
                clear A90
                by_cases c10 : t261 = 6
                · rw [if_pos c10] at H
                  have c10b0 : (t261 == 6) = true := beq_iff_eq.mpr c10
                  have c10b1 : (t261 != 6) = false := bne_eq_false_iff_eq.mpr c10
                  clear c10
                  replace H := Option.bind_eq_some_iff.mp H
                  obtain ⟨t262, A110, H⟩ := H
                  replace H : (some (t262 == 2)) = some r := H
                  have A11 := Aside0.mk A110
                  clear A110
                  obtain rfl := Option.some.inj H
                  go_enter Tryd.func27, Tryd.ntmps27
                  go_wp2_with (first | ((with_reducible refine gate_callee (f := 20) rfl ?_); refine goesL_ (some 2) rfl rfl Tryd.func20 (by kernel_rfl) rfl #[.string (⟨#[108, 101, 116, 32, 120, 49, 61, 45, 50, 59]⟩ : ByteArray)] rfl (by (try simp only [List.map_toArray, List.map_cons, List.map_nil]); first | done | rfl | (simp only [List.length_drop, List.length_take]; rfl)) ?_; (with_reducible refine (G.lex_All.calls (⟨#[108, 101, 116, 32, 120, 49, 61, 45, 50, 59]⟩ : ByteArray) t255 _ A1.out (G.tabs_below HT.out (by repeat (first | (with_reducible first | exact HB.out | apply below_alloc | apply pw_below_drewN | apply below_drew1) | exact HB.out)))).mono ?_); rintro e w12 ⟨v256, rfl, ho0, hb⟩; refine ⟨_, rfl, ?_⟩; have n0_ := Aside0.mk (Kd.R_lower ho0 (below_size (by repeat (first | (with_reducible first | exact HB.out | apply below_alloc | apply pw_below_drewN | apply below_drew1) | exact HB.out)))); have n1_ := Aside0.mk (below_step (by repeat (first | (with_reducible first | exact HB.out | apply below_alloc | apply pw_below_drewN | apply below_drew1) | exact HB.out)) hb); clear HB; have HO257 := n0_; have HB := n1_; clear n0_ n1_; (try clear hb); (try clear hb2); (try clear hk); (try clear hi); (try clear ho0); obtain ⟨Ao13, co13, eo13⟩ := Kd.R_slice HO257.out; subst eo13; have p258 : 0 ≤ (0 : Int) := (by omega); have q258 : 0 < (t255.length : Int) := of_decide_eq_true (by first | (with_reducible assumption) | assumption); obtain ⟨ad258, e258, hx258_0, hx258_1, hx258_2⟩ := at_T23 (Kd.R_reads' HO257.out).2.2 0 p258 q258; cases e258; have qi258 : (0 < t255.length) = True := eq_true (by omega); (try rw [show ((0 : Int)).toNat = 0 from rfl] at hx258_0); (try rw [show 0 * 3 = 0 from rfl] at hx258_0); (try rw [Addr.add_zero'] at hx258_0); (try rw [show ((0 : Int)).toNat = 0 from rfl] at hx258_1); (try rw [show 0 * 3 = 0 from rfl] at hx258_1); (try rw [Addr.add_zero'] at hx258_1); (try rw [show ((0 : Int)).toNat = 0 from rfl] at hx258_2); (try rw [show 0 * 3 = 0 from rfl] at hx258_2); (try rw [Addr.add_zero'] at hx258_2); replace p258 := eq_true p258; replace q258 := eq_true q258; have p259 : 0 ≤ (4 : Int) := (by omega); have q259 : 4 < (t255.length : Int) := of_decide_eq_true (by first | (with_reducible assumption) | assumption); obtain ⟨ad259, e259, hx259_0, hx259_1, hx259_2⟩ := at_T23 (Kd.R_reads' HO257.out).2.2 4 p259 q259; obtain rfl : ad258 = ad259 := (by injection e259); (try simp only [show (4 : Int).toNat = 4 from rfl, Nat.reduceMul, Nat.reduceEqDiff, Go.Addr.add, ↓reduceIte] at hx259_0); (try simp only [show (4 : Int).toNat = 4 from rfl, Nat.reduceMul, Nat.reduceEqDiff, Go.Addr.add, ↓reduceIte] at hx259_1); (try simp only [show (4 : Int).toNat = 4 from rfl, Nat.reduceMul, Nat.reduceEqDiff, Go.Addr.add, ↓reduceIte] at hx259_2); have qi259 : (4 < t255.length) = True := eq_true (by omega); (try rw [show ((4 : Int)).toNat = 4 from rfl] at hx259_0); (try rw [show 4 * 3 = 12 from rfl] at hx259_0); (try rw [show ((4 : Int)).toNat = 4 from rfl] at hx259_1); (try rw [show 4 * 3 = 12 from rfl] at hx259_1); (try rw [show ((4 : Int)).toNat = 4 from rfl] at hx259_2); (try rw [show 4 * 3 = 12 from rfl] at hx259_2); replace p259 := eq_true p259; replace q259 := eq_true q259; have p260 : 0 ≤ (5 : Int) := (by omega); have q260 : 5 < (t255.length : Int) := of_decide_eq_true (by first | (with_reducible assumption) | assumption); obtain ⟨ad260, e260, hx260_0, hx260_1, hx260_2⟩ := at_T23 (Kd.R_reads' HO257.out).2.2 5 p260 q260; obtain rfl : ad258 = ad260 := (by injection e260); (try simp only [show (5 : Int).toNat = 5 from rfl, Nat.reduceMul, Nat.reduceEqDiff, Go.Addr.add, ↓reduceIte] at hx260_0); (try simp only [show (5 : Int).toNat = 5 from rfl, Nat.reduceMul, Nat.reduceEqDiff, Go.Addr.add, ↓reduceIte] at hx260_1); (try simp only [show (5 : Int).toNat = 5 from rfl, Nat.reduceMul, Nat.reduceEqDiff, Go.Addr.add, ↓reduceIte] at hx260_2); have qi260 : (5 < t255.length) = True := eq_true (by omega); (try rw [show ((5 : Int)).toNat = 5 from rfl] at hx260_0); (try rw [show 5 * 3 = 15 from rfl] at hx260_0); (try rw [show ((5 : Int)).toNat = 5 from rfl] at hx260_1); (try rw [show 5 * 3 = 15 from rfl] at hx260_1); (try rw [show ((5 : Int)).toNat = 5 from rfl] at hx260_2); (try rw [show 5 * 3 = 15 from rfl] at hx260_2); replace p260 := eq_true p260; replace q260 := eq_true q260) | (go_at_call 56; (with_reducible refine (G.lex_At.calls k _ _ t255 9 t261 _ ?side1 ?side2 A9.out).mono ?_); (case side1 => repeat (first | exact (Kd.R_reads' HO257.out).2.2 | (with_reducible refine Kd.C_alloc ?_ _) | (with_reducible refine Kd.C_drewN ?_ _) | (with_reducible refine Kd.C_drew ?_))); (case side2 => exact (Kd.R_reads' HO257.out).2.1); rintro e w14 ⟨rfl, hb⟩; have n0_ := Aside0.mk (Kd.R_below (by (with_reducible repeat (first | apply Kd.R_alloc | apply Kd.R_drewN | apply Kd.R_drew)); exact HO257.out) hb); have n1_ := Aside0.mk (below_step (by repeat (first | (with_reducible first | exact HB.out | apply below_alloc | apply pw_below_drewN | apply below_drew1) | exact HB.out)) hb); clear HO257; clear HB; have HO257 := n0_; have HB := n1_; clear n0_ n1_; (try clear hb); (try clear hb2); (try clear hk); (try clear hi)) | (go_at_call 57; (with_reducible refine (lex_Next.calls k _ _ t255 1 t262 _ ?side1 ?side2 A11.out).mono ?_); (case side1 => repeat (first | exact (Kd.R_reads' HO257.out).2.2 | (with_reducible refine Kd.C_alloc ?_ _) | (with_reducible refine Kd.C_drewN ?_ _) | (with_reducible refine Kd.C_drew ?_))); (case side2 => exact (Kd.R_reads' HO257.out).2.1); rintro e w15 ⟨rfl, hb⟩; have n0_ := Aside0.mk (Kd.R_below (by (with_reducible repeat (first | apply Kd.R_alloc | apply Kd.R_drewN | apply Kd.R_drew)); exact HO257.out) hb); have n1_ := Aside0.mk (below_step (by repeat (first | (with_reducible first | exact HB.out | apply below_alloc | apply pw_below_drewN | apply below_drew1) | exact HB.out)) hb); clear HO257; clear HB; have HO257 := n0_; have HB := n1_; clear n0_ n1_; (try clear hb); (try clear hb2); (try clear hk); (try clear hi)))
                  go_ret
                  exact ⟨by first | rfl | (simp [errW_none, errW_some] <;> rfl) | (simp [*, errW_none, errW_some] <;> rfl), by repeat (first | (with_reducible first | exact HB.out | apply below_alloc | apply pw_below_drewN | apply below_drew1) | exact HB.out)⟩
                · rw [if_neg c10] at H
                  have c10b0 : (t261 == 6) = false := beq_eq_false_iff_ne.mpr c10
                  have c10b1 : (t261 != 6) = true := bne_iff_ne.mpr c10
                  obtain rfl := Option.some.inj H
                  go_enter Tryd.func27, Tryd.ntmps27
                  go_wp2_with (first | ((with_reducible refine gate_callee (f := 20) rfl ?_); refine goesL_ (some 2) rfl rfl Tryd.func20 (by kernel_rfl) rfl #[.string (⟨#[108, 101, 116, 32, 120, 49, 61, 45, 50, 59]⟩ : ByteArray)] rfl (by (try simp only [List.map_toArray, List.map_cons, List.map_nil]); first | done | rfl | (simp only [List.length_drop, List.length_take]; rfl)) ?_; (with_reducible refine (G.lex_All.calls (⟨#[108, 101, 116, 32, 120, 49, 61, 45, 50, 59]⟩ : ByteArray) t255 _ A1.out (G.tabs_below HT.out (by repeat (first | (with_reducible first | exact HB.out | apply below_alloc | apply pw_below_drewN | apply below_drew1) | exact HB.out)))).mono ?_); rintro e w16 ⟨v256, rfl, ho0, hb⟩; refine ⟨_, rfl, ?_⟩; have n0_ := Aside0.mk (Kd.R_lower ho0 (below_size (by repeat (first | (with_reducible first | exact HB.out | apply below_alloc | apply pw_below_drewN | apply below_drew1) | exact HB.out)))); have n1_ := Aside0.mk (below_step (by repeat (first | (with_reducible first | exact HB.out | apply below_alloc | apply pw_below_drewN | apply below_drew1) | exact HB.out)) hb); clear HB; have HO257 := n0_; have HB := n1_; clear n0_ n1_; (try clear hb); (try clear hb2); (try clear hk); (try clear hi); (try clear ho0); obtain ⟨Ao17, co17, eo17⟩ := Kd.R_slice HO257.out; subst eo17; have p258 : 0 ≤ (0 : Int) := (by omega); have q258 : 0 < (t255.length : Int) := of_decide_eq_true (by first | (with_reducible assumption) | assumption); obtain ⟨ad258, e258, hx258_0, hx258_1, hx258_2⟩ := at_T23 (Kd.R_reads' HO257.out).2.2 0 p258 q258; cases e258; have qi258 : (0 < t255.length) = True := eq_true (by omega); (try rw [show ((0 : Int)).toNat = 0 from rfl] at hx258_0); (try rw [show 0 * 3 = 0 from rfl] at hx258_0); (try rw [Addr.add_zero'] at hx258_0); (try rw [show ((0 : Int)).toNat = 0 from rfl] at hx258_1); (try rw [show 0 * 3 = 0 from rfl] at hx258_1); (try rw [Addr.add_zero'] at hx258_1); (try rw [show ((0 : Int)).toNat = 0 from rfl] at hx258_2); (try rw [show 0 * 3 = 0 from rfl] at hx258_2); (try rw [Addr.add_zero'] at hx258_2); replace p258 := eq_true p258; replace q258 := eq_true q258; have p259 : 0 ≤ (4 : Int) := (by omega); have q259 : 4 < (t255.length : Int) := of_decide_eq_true (by first | (with_reducible assumption) | assumption); obtain ⟨ad259, e259, hx259_0, hx259_1, hx259_2⟩ := at_T23 (Kd.R_reads' HO257.out).2.2 4 p259 q259; obtain rfl : ad258 = ad259 := (by injection e259); (try simp only [show (4 : Int).toNat = 4 from rfl, Nat.reduceMul, Nat.reduceEqDiff, Go.Addr.add, ↓reduceIte] at hx259_0); (try simp only [show (4 : Int).toNat = 4 from rfl, Nat.reduceMul, Nat.reduceEqDiff, Go.Addr.add, ↓reduceIte] at hx259_1); (try simp only [show (4 : Int).toNat = 4 from rfl, Nat.reduceMul, Nat.reduceEqDiff, Go.Addr.add, ↓reduceIte] at hx259_2); have qi259 : (4 < t255.length) = True := eq_true (by omega); (try rw [show ((4 : Int)).toNat = 4 from rfl] at hx259_0); (try rw [show 4 * 3 = 12 from rfl] at hx259_0); (try rw [show ((4 : Int)).toNat = 4 from rfl] at hx259_1); (try rw [show 4 * 3 = 12 from rfl] at hx259_1); (try rw [show ((4 : Int)).toNat = 4 from rfl] at hx259_2); (try rw [show 4 * 3 = 12 from rfl] at hx259_2); replace p259 := eq_true p259; replace q259 := eq_true q259; have p260 : 0 ≤ (5 : Int) := (by omega); have q260 : 5 < (t255.length : Int) := of_decide_eq_true (by first | (with_reducible assumption) | assumption); obtain ⟨ad260, e260, hx260_0, hx260_1, hx260_2⟩ := at_T23 (Kd.R_reads' HO257.out).2.2 5 p260 q260; obtain rfl : ad258 = ad260 := (by injection e260); (try simp only [show (5 : Int).toNat = 5 from rfl, Nat.reduceMul, Nat.reduceEqDiff, Go.Addr.add, ↓reduceIte] at hx260_0); (try simp only [show (5 : Int).toNat = 5 from rfl, Nat.reduceMul, Nat.reduceEqDiff, Go.Addr.add, ↓reduceIte] at hx260_1); (try simp only [show (5 : Int).toNat = 5 from rfl, Nat.reduceMul, Nat.reduceEqDiff, Go.Addr.add, ↓reduceIte] at hx260_2); have qi260 : (5 < t255.length) = True := eq_true (by omega); (try rw [show ((5 : Int)).toNat = 5 from rfl] at hx260_0); (try rw [show 5 * 3 = 15 from rfl] at hx260_0); (try rw [show ((5 : Int)).toNat = 5 from rfl] at hx260_1); (try rw [show 5 * 3 = 15 from rfl] at hx260_1); (try rw [show ((5 : Int)).toNat = 5 from rfl] at hx260_2); (try rw [show 5 * 3 = 15 from rfl] at hx260_2); replace p260 := eq_true p260; replace q260 := eq_true q260) | (go_at_call 56; (with_reducible refine (G.lex_At.calls k _ _ t255 9 t261 _ ?side1 ?side2 A9.out).mono ?_); (case side1 => repeat (first | exact (Kd.R_reads' HO257.out).2.2 | (with_reducible refine Kd.C_alloc ?_ _) | (with_reducible refine Kd.C_drewN ?_ _) | (with_reducible refine Kd.C_drew ?_))); (case side2 => exact (Kd.R_reads' HO257.out).2.1); rintro e w18 ⟨rfl, hb⟩; have n0_ := Aside0.mk (Kd.R_below (by (with_reducible repeat (first | apply Kd.R_alloc | apply Kd.R_drewN | apply Kd.R_drew)); exact HO257.out) hb); have n1_ := Aside0.mk (below_step (by repeat (first | (with_reducible first | exact HB.out | apply below_alloc | apply pw_below_drewN | apply below_drew1) | exact HB.out)) hb); clear HO257; clear HB; have HO257 := n0_; have HB := n1_; clear n0_ n1_; (try clear hb); (try clear hb2); (try clear hk); (try clear hi)))
                  go_ret
                  exact ⟨by first | rfl | (simp [errW_none, errW_some] <;> rfl) | (simp [*, errW_none, errW_some] <;> rfl), by repeat (first | (with_reducible first | exact HB.out | apply below_alloc | apply pw_below_drewN | apply below_drew1) | exact HB.out)⟩
              · rw [if_neg c8] at H
                have c8b0 : (((rd_T23 t255 5).f0) == 7) = false := beq_eq_false_iff_ne.mpr c8
                have c8b1 : (((rd_T23 t255 5).f0) != 7) = true := bne_iff_ne.mpr c8
                obtain rfl := Option.some.inj H
                go_enter Tryd.func27, Tryd.ntmps27
                go_wp2_with (first | ((with_reducible refine gate_callee (f := 20) rfl ?_); refine goesL_ (some 2) rfl rfl Tryd.func20 (by kernel_rfl) rfl #[.string (⟨#[108, 101, 116, 32, 120, 49, 61, 45, 50, 59]⟩ : ByteArray)] rfl (by (try simp only [List.map_toArray, List.map_cons, List.map_nil]); first | done | rfl | (simp only [List.length_drop, List.length_take]; rfl)) ?_; (with_reducible refine (G.lex_All.calls (⟨#[108, 101, 116, 32, 120, 49, 61, 45, 50, 59]⟩ : ByteArray) t255 _ A1.out (G.tabs_below HT.out (by repeat (first | (with_reducible first | exact HB.out | apply below_alloc | apply pw_below_drewN | apply below_drew1) | exact HB.out)))).mono ?_); rintro e w19 ⟨v256, rfl, ho0, hb⟩; refine ⟨_, rfl, ?_⟩; have n0_ := Aside0.mk (Kd.R_lower ho0 (below_size (by repeat (first | (with_reducible first | exact HB.out | apply below_alloc | apply pw_below_drewN | apply below_drew1) | exact HB.out)))); have n1_ := Aside0.mk (below_step (by repeat (first | (with_reducible first | exact HB.out | apply below_alloc | apply pw_below_drewN | apply below_drew1) | exact HB.out)) hb); clear HB; have HO257 := n0_; have HB := n1_; clear n0_ n1_; (try clear hb); (try clear hb2); (try clear hk); (try clear hi); (try clear ho0); obtain ⟨Ao20, co20, eo20⟩ := Kd.R_slice HO257.out; subst eo20; have p258 : 0 ≤ (0 : Int) := (by omega); have q258 : 0 < (t255.length : Int) := of_decide_eq_true (by first | (with_reducible assumption) | assumption); obtain ⟨ad258, e258, hx258_0, hx258_1, hx258_2⟩ := at_T23 (Kd.R_reads' HO257.out).2.2 0 p258 q258; cases e258; have qi258 : (0 < t255.length) = True := eq_true (by omega); (try rw [show ((0 : Int)).toNat = 0 from rfl] at hx258_0); (try rw [show 0 * 3 = 0 from rfl] at hx258_0); (try rw [Addr.add_zero'] at hx258_0); (try rw [show ((0 : Int)).toNat = 0 from rfl] at hx258_1); (try rw [show 0 * 3 = 0 from rfl] at hx258_1); (try rw [Addr.add_zero'] at hx258_1); (try rw [show ((0 : Int)).toNat = 0 from rfl] at hx258_2); (try rw [show 0 * 3 = 0 from rfl] at hx258_2); (try rw [Addr.add_zero'] at hx258_2); replace p258 := eq_true p258; replace q258 := eq_true q258; have p259 : 0 ≤ (4 : Int) := (by omega); have q259 : 4 < (t255.length : Int) := of_decide_eq_true (by first | (with_reducible assumption) | assumption); obtain ⟨ad259, e259, hx259_0, hx259_1, hx259_2⟩ := at_T23 (Kd.R_reads' HO257.out).2.2 4 p259 q259; obtain rfl : ad258 = ad259 := (by injection e259); (try simp only [show (4 : Int).toNat = 4 from rfl, Nat.reduceMul, Nat.reduceEqDiff, Go.Addr.add, ↓reduceIte] at hx259_0); (try simp only [show (4 : Int).toNat = 4 from rfl, Nat.reduceMul, Nat.reduceEqDiff, Go.Addr.add, ↓reduceIte] at hx259_1); (try simp only [show (4 : Int).toNat = 4 from rfl, Nat.reduceMul, Nat.reduceEqDiff, Go.Addr.add, ↓reduceIte] at hx259_2); have qi259 : (4 < t255.length) = True := eq_true (by omega); (try rw [show ((4 : Int)).toNat = 4 from rfl] at hx259_0); (try rw [show 4 * 3 = 12 from rfl] at hx259_0); (try rw [show ((4 : Int)).toNat = 4 from rfl] at hx259_1); (try rw [show 4 * 3 = 12 from rfl] at hx259_1); (try rw [show ((4 : Int)).toNat = 4 from rfl] at hx259_2); (try rw [show 4 * 3 = 12 from rfl] at hx259_2); replace p259 := eq_true p259; replace q259 := eq_true q259; have p260 : 0 ≤ (5 : Int) := (by omega); have q260 : 5 < (t255.length : Int) := of_decide_eq_true (by first | (with_reducible assumption) | assumption); obtain ⟨ad260, e260, hx260_0, hx260_1, hx260_2⟩ := at_T23 (Kd.R_reads' HO257.out).2.2 5 p260 q260; obtain rfl : ad258 = ad260 := (by injection e260); (try simp only [show (5 : Int).toNat = 5 from rfl, Nat.reduceMul, Nat.reduceEqDiff, Go.Addr.add, ↓reduceIte] at hx260_0); (try simp only [show (5 : Int).toNat = 5 from rfl, Nat.reduceMul, Nat.reduceEqDiff, Go.Addr.add, ↓reduceIte] at hx260_1); (try simp only [show (5 : Int).toNat = 5 from rfl, Nat.reduceMul, Nat.reduceEqDiff, Go.Addr.add, ↓reduceIte] at hx260_2); have qi260 : (5 < t255.length) = True := eq_true (by omega); (try rw [show ((5 : Int)).toNat = 5 from rfl] at hx260_0); (try rw [show 5 * 3 = 15 from rfl] at hx260_0); (try rw [show ((5 : Int)).toNat = 5 from rfl] at hx260_1); (try rw [show 5 * 3 = 15 from rfl] at hx260_1); (try rw [show ((5 : Int)).toNat = 5 from rfl] at hx260_2); (try rw [show 5 * 3 = 15 from rfl] at hx260_2); replace p260 := eq_true p260; replace q260 := eq_true q260))
                go_ret
                exact ⟨by first | rfl | (simp [errW_none, errW_some] <;> rfl) | (simp [*, errW_none, errW_some] <;> rfl), by repeat (first | (with_reducible first | exact HB.out | apply below_alloc | apply pw_below_drewN | apply below_drew1) | exact HB.out)⟩
            · rw [if_neg c7] at H
              exact absurd H (by simp)
          · rw [if_neg c6] at H
            have c6b0 : (((rd_T23 t255 4).f0) == 34 && (((rd_T23 t255 4).f1) == 1 && (((rd_T23 t255 4).f2) == 0))) = false := by simpa using c6
            (try (have c6b1 : decide (((rd_T23 t255 4).f0) = 34 && (((rd_T23 t255 4).f1) == 1 && (((rd_T23 t255 4).f2) == 0))) = false := by simpa using c6))
            (try (have c6b2 : (((rd_T23 t255 4).f0) == 34 && (((rd_T23 t255 4).f1) == 1 && (((rd_T23 t255 4).f2) == 0))) = false := by simpa using c6))
            (try (have c6b3 : ¬ (((rd_T23 t255 4).f0) = 34 && (((rd_T23 t255 4).f1) == 1 && (((rd_T23 t255 4).f2) == 0))) := by simpa using c6))
            clear c6
            obtain rfl := Option.some.inj H
            go_enter Tryd.func27, Tryd.ntmps27
            go_wp2_with (first | ((with_reducible refine gate_callee (f := 20) rfl ?_); refine goesL_ (some 2) rfl rfl Tryd.func20 (by kernel_rfl) rfl #[.string (⟨#[108, 101, 116, 32, 120, 49, 61, 45, 50, 59]⟩ : ByteArray)] rfl (by (try simp only [List.map_toArray, List.map_cons, List.map_nil]); first | done | rfl | (simp only [List.length_drop, List.length_take]; rfl)) ?_; (with_reducible refine (G.lex_All.calls (⟨#[108, 101, 116, 32, 120, 49, 61, 45, 50, 59]⟩ : ByteArray) t255 _ A1.out (G.tabs_below HT.out (by repeat (first | (with_reducible first | exact HB.out | apply below_alloc | apply pw_below_drewN | apply below_drew1) | exact HB.out)))).mono ?_); rintro e w21 ⟨v256, rfl, ho0, hb⟩; refine ⟨_, rfl, ?_⟩; have n0_ := Aside0.mk (Kd.R_lower ho0 (below_size (by repeat (first | (with_reducible first | exact HB.out | apply below_alloc | apply pw_below_drewN | apply below_drew1) | exact HB.out)))); have n1_ := Aside0.mk (below_step (by repeat (first | (with_reducible first | exact HB.out | apply below_alloc | apply pw_below_drewN | apply below_drew1) | exact HB.out)) hb); clear HB; have HO257 := n0_; have HB := n1_; clear n0_ n1_; (try clear hb); (try clear hb2); (try clear hk); (try clear hi); (try clear ho0); obtain ⟨Ao22, co22, eo22⟩ := Kd.R_slice HO257.out; subst eo22; have p258 : 0 ≤ (0 : Int) := (by omega); have q258 : 0 < (t255.length : Int) := of_decide_eq_true (by first | (with_reducible assumption) | assumption); obtain ⟨ad258, e258, hx258_0, hx258_1, hx258_2⟩ := at_T23 (Kd.R_reads' HO257.out).2.2 0 p258 q258; cases e258; have qi258 : (0 < t255.length) = True := eq_true (by omega); (try rw [show ((0 : Int)).toNat = 0 from rfl] at hx258_0); (try rw [show 0 * 3 = 0 from rfl] at hx258_0); (try rw [Addr.add_zero'] at hx258_0); (try rw [show ((0 : Int)).toNat = 0 from rfl] at hx258_1); (try rw [show 0 * 3 = 0 from rfl] at hx258_1); (try rw [Addr.add_zero'] at hx258_1); (try rw [show ((0 : Int)).toNat = 0 from rfl] at hx258_2); (try rw [show 0 * 3 = 0 from rfl] at hx258_2); (try rw [Addr.add_zero'] at hx258_2); replace p258 := eq_true p258; replace q258 := eq_true q258; have p259 : 0 ≤ (4 : Int) := (by omega); have q259 : 4 < (t255.length : Int) := of_decide_eq_true (by first | (with_reducible assumption) | assumption); obtain ⟨ad259, e259, hx259_0, hx259_1, hx259_2⟩ := at_T23 (Kd.R_reads' HO257.out).2.2 4 p259 q259; obtain rfl : ad258 = ad259 := (by injection e259); (try simp only [show (4 : Int).toNat = 4 from rfl, Nat.reduceMul, Nat.reduceEqDiff, Go.Addr.add, ↓reduceIte] at hx259_0); (try simp only [show (4 : Int).toNat = 4 from rfl, Nat.reduceMul, Nat.reduceEqDiff, Go.Addr.add, ↓reduceIte] at hx259_1); (try simp only [show (4 : Int).toNat = 4 from rfl, Nat.reduceMul, Nat.reduceEqDiff, Go.Addr.add, ↓reduceIte] at hx259_2); have qi259 : (4 < t255.length) = True := eq_true (by omega); (try rw [show ((4 : Int)).toNat = 4 from rfl] at hx259_0); (try rw [show 4 * 3 = 12 from rfl] at hx259_0); (try rw [show ((4 : Int)).toNat = 4 from rfl] at hx259_1); (try rw [show 4 * 3 = 12 from rfl] at hx259_1); (try rw [show ((4 : Int)).toNat = 4 from rfl] at hx259_2); (try rw [show 4 * 3 = 12 from rfl] at hx259_2); replace p259 := eq_true p259; replace q259 := eq_true q259))
            go_ret
            exact ⟨by first | rfl | (simp [errW_none, errW_some] <;> rfl) | (simp [*, errW_none, errW_some] <;> rfl), by repeat (first | (with_reducible first | exact HB.out | apply below_alloc | apply pw_below_drewN | apply below_drew1) | exact HB.out)⟩
        · rw [if_neg c5] at H
          exact absurd H (by simp)
      · rw [if_neg c4] at H
        have c4b0 : (((rd_T23 t255 0).f0) == 10 && (((rd_T23 t255 0).f1) == 3 && (((rd_T23 t255 0).f2) == 1))) = false := by simpa using c4
        (try (have c4b1 : decide (((rd_T23 t255 0).f0) = 10 && (((rd_T23 t255 0).f1) == 3 && (((rd_T23 t255 0).f2) == 1))) = false := by simpa using c4))
        (try (have c4b2 : (((rd_T23 t255 0).f0) == 10 && (((rd_T23 t255 0).f1) == 3 && (((rd_T23 t255 0).f2) == 1))) = false := by simpa using c4))
        (try (have c4b3 : ¬ (((rd_T23 t255 0).f0) = 10 && (((rd_T23 t255 0).f1) == 3 && (((rd_T23 t255 0).f2) == 1))) := by simpa using c4))
        clear c4
        obtain rfl := Option.some.inj H
        go_enter Tryd.func27, Tryd.ntmps27
        go_wp2_with (first | ((with_reducible refine gate_callee (f := 20) rfl ?_); refine goesL_ (some 2) rfl rfl Tryd.func20 (by kernel_rfl) rfl #[.string (⟨#[108, 101, 116, 32, 120, 49, 61, 45, 50, 59]⟩ : ByteArray)] rfl (by (try simp only [List.map_toArray, List.map_cons, List.map_nil]); first | done | rfl | (simp only [List.length_drop, List.length_take]; rfl)) ?_; (with_reducible refine (G.lex_All.calls (⟨#[108, 101, 116, 32, 120, 49, 61, 45, 50, 59]⟩ : ByteArray) t255 _ A1.out (G.tabs_below HT.out (by repeat (first | (with_reducible first | exact HB.out | apply below_alloc | apply pw_below_drewN | apply below_drew1) | exact HB.out)))).mono ?_); rintro e w23 ⟨v256, rfl, ho0, hb⟩; refine ⟨_, rfl, ?_⟩; have n0_ := Aside0.mk (Kd.R_lower ho0 (below_size (by repeat (first | (with_reducible first | exact HB.out | apply below_alloc | apply pw_below_drewN | apply below_drew1) | exact HB.out)))); have n1_ := Aside0.mk (below_step (by repeat (first | (with_reducible first | exact HB.out | apply below_alloc | apply pw_below_drewN | apply below_drew1) | exact HB.out)) hb); clear HB; have HO257 := n0_; have HB := n1_; clear n0_ n1_; (try clear hb); (try clear hb2); (try clear hk); (try clear hi); (try clear ho0); obtain ⟨Ao24, co24, eo24⟩ := Kd.R_slice HO257.out; subst eo24; have p258 : 0 ≤ (0 : Int) := (by omega); have q258 : 0 < (t255.length : Int) := of_decide_eq_true (by first | (with_reducible assumption) | assumption); obtain ⟨ad258, e258, hx258_0, hx258_1, hx258_2⟩ := at_T23 (Kd.R_reads' HO257.out).2.2 0 p258 q258; cases e258; have qi258 : (0 < t255.length) = True := eq_true (by omega); (try rw [show ((0 : Int)).toNat = 0 from rfl] at hx258_0); (try rw [show 0 * 3 = 0 from rfl] at hx258_0); (try rw [Addr.add_zero'] at hx258_0); (try rw [show ((0 : Int)).toNat = 0 from rfl] at hx258_1); (try rw [show 0 * 3 = 0 from rfl] at hx258_1); (try rw [Addr.add_zero'] at hx258_1); (try rw [show ((0 : Int)).toNat = 0 from rfl] at hx258_2); (try rw [show 0 * 3 = 0 from rfl] at hx258_2); (try rw [Addr.add_zero'] at hx258_2); replace p258 := eq_true p258; replace q258 := eq_true q258))
        go_ret
        exact ⟨by first | rfl | (simp [errW_none, errW_some] <;> rfl) | (simp [*, errW_none, errW_some] <;> rfl), by repeat (first | (with_reducible first | exact HB.out | apply below_alloc | apply pw_below_drewN | apply below_drew1) | exact HB.out)⟩
    · rw [if_neg c3] at H
      exact absurd H (by simp)
  · rw [if_neg c2] at H
    have c2b0 : ((t255.length : Int) == 7) = false := beq_eq_false_iff_ne.mpr c2
    have c2b1 : ((t255.length : Int) != 7) = true := bne_iff_ne.mpr c2
    obtain rfl := Option.some.inj H
    go_enter Tryd.func27, Tryd.ntmps27
    go_wp2_with (first | ((with_reducible refine gate_callee (f := 20) rfl ?_); refine goesL_ (some 2) rfl rfl Tryd.func20 (by kernel_rfl) rfl #[.string (⟨#[108, 101, 116, 32, 120, 49, 61, 45, 50, 59]⟩ : ByteArray)] rfl (by (try simp only [List.map_toArray, List.map_cons, List.map_nil]); first | done | rfl | (simp only [List.length_drop, List.length_take]; rfl)) ?_; (with_reducible refine (G.lex_All.calls (⟨#[108, 101, 116, 32, 120, 49, 61, 45, 50, 59]⟩ : ByteArray) t255 _ A1.out (G.tabs_below HT.out (by repeat (first | (with_reducible first | exact HB.out | apply below_alloc | apply pw_below_drewN | apply below_drew1) | exact HB.out)))).mono ?_); rintro e w25 ⟨v256, rfl, ho0, hb⟩; refine ⟨_, rfl, ?_⟩; have n0_ := Aside0.mk (Kd.R_lower ho0 (below_size (by repeat (first | (with_reducible first | exact HB.out | apply below_alloc | apply pw_below_drewN | apply below_drew1) | exact HB.out)))); have n1_ := Aside0.mk (below_step (by repeat (first | (with_reducible first | exact HB.out | apply below_alloc | apply pw_below_drewN | apply below_drew1) | exact HB.out)) hb); clear HB; have HO257 := n0_; have HB := n1_; clear n0_ n1_; (try clear hb); (try clear hb2); (try clear hk); (try clear hi); (try clear ho0); obtain ⟨Ao26, co26, eo26⟩ := Kd.R_slice HO257.out; subst eo26))
    go_ret
    exact ⟨by first | rfl | (simp [errW_none, errW_some] <;> rfl) | (simp [*, errW_none, errW_some] <;> rfl), by repeat (first | (with_reducible first | exact HB.out | apply below_alloc | apply pw_below_drewN | apply below_drew1) | exact HB.out)⟩

/-! ### glossatorlaw12_LexWhole: function 9 -/
mutual
def glossatorlaw12_LexWhole.l0 : Nat → ByteArray → List (S23) → Int → Int → Option (Bool)
  | 0, _, _, _, _ => none
  | k + 1, x0, x3, x4, x5 => if x5 < (x3.length : Int) then (if 0 ≤ x5 then (if ((rd_T23 x3 x5).f1) < 1 then (glossatorlaw12_LexWhole.j1 k x0 x3 x4 x5 true) else (glossatorlaw12_LexWhole.j1 k x0 x3 x4 x5 (decide (((rd_T23 x3 x5).f2) < 0)))) else (none)) else (if x4 = (x0.size : Int) then ((glossatorlaw12_awake.f k).bind fun t267 => (some t267)) else (some false))
def glossatorlaw12_LexWhole.j1 : Nat → ByteArray → List (S23) → Int → Int → Bool → Option (Bool)
  | 0, _, _, _, _, _ => none
  | k + 1, x0, x3, x4, x5, x32 => if x32 = true then (some false) else (if 0 ≤ x5 then (if x5 < (x3.length : Int) then (if x5 > 0 then (if ((rd_T23 x3 x5).f0) = 1 then (if 0 ≤ (wrap64 (x5 - 1)) then (if (wrap64 (x5 - 1)) < (x3.length : Int) then (if ((rd_T23 x3 (wrap64 (x5 - 1))).f0) = 1 then (some false) else (if ((rd_T23 x3 (wrap64 (x5 - 1))).f0) = 2 then (if (((rd_T23 x3 x5).f0) = 1) then (glossatorlaw12_LexWhole.l0 k x0 x3 (wrap64 (x4 + ((rd_T23 x3 x5).f1))) (wrap64 (x5 + 1))) else (some false)) else (glossatorlaw12_LexWhole.l0 k x0 x3 (wrap64 (x4 + ((rd_T23 x3 x5).f1))) (wrap64 (x5 + 1))))) else (none)) else (none)) else (if 0 ≤ (wrap64 (x5 - 1)) then (if (wrap64 (x5 - 1)) < (x3.length : Int) then (if ((rd_T23 x3 (wrap64 (x5 - 1))).f0) = 2 then (if (((rd_T23 x3 x5).f0) = 1) then (glossatorlaw12_LexWhole.l0 k x0 x3 (wrap64 (x4 + ((rd_T23 x3 x5).f1))) (wrap64 (x5 + 1))) else (some false)) else (glossatorlaw12_LexWhole.l0 k x0 x3 (wrap64 (x4 + ((rd_T23 x3 x5).f1))) (wrap64 (x5 + 1)))) else (none)) else (none))) else (glossatorlaw12_LexWhole.l0 k x0 x3 (wrap64 (x4 + ((rd_T23 x3 x5).f1))) (wrap64 (x5 + 1)))) else (none)) else (none))
end
def glossatorlaw12_LexWhole.f (k : Nat) (a0 : ByteArray) : Option (Bool) := if (a0.size : Int) > 40000 then ((glossatorlaw12_awake.f k).bind fun t263 => (some t263)) else ((G.lex_All.f a0).bind fun t264 => (glossatorlaw12_LexWhole.l0 k a0 t264 0 0))
theorem glossatorlaw12_LexWhole.mono_l : ∀ k, (∀ y0 y1 y2 y3, LeO (glossatorlaw12_LexWhole.l0 k y0 y1 y2 y3) (glossatorlaw12_LexWhole.l0 (k + 1) y0 y1 y2 y3)) ∧ (∀ y0 y1 y2 y3 y4, LeO (glossatorlaw12_LexWhole.j1 k y0 y1 y2 y3 y4) (glossatorlaw12_LexWhole.j1 (k + 1) y0 y1 y2 y3 y4))
  | 0 => ⟨fun _ _ _ _ r h => by simp [glossatorlaw12_LexWhole.l0] at h, fun _ _ _ _ _ r h => by simp [glossatorlaw12_LexWhole.j1] at h⟩
  | k + 1 => by
    obtain ⟨ih0, ih1⟩ := glossatorlaw12_LexWhole.mono_l k
    refine ⟨?_, ?_⟩
    · intro y0 y1 y2 y3
      unfold glossatorlaw12_LexWhole.l0
      repeat' first
      | (with_reducible exact ih0 _ _ _ _)
      | (with_reducible exact ih1 _ _ _ _ _)
      | (with_reducible exact glossatorlaw12_awake.mono _)
      | (with_reducible exact LeO.refl _)
      | (with_reducible exact LeO.none _)
      | (with_reducible refine LeO.ite ?_ ?_)
      | (with_reducible refine LeO.bind ?_ (fun _ => ?_))
      | exact ih0 _ _ _ _
      | exact ih1 _ _ _ _ _
      | exact glossatorlaw12_awake.mono _
      | exact LeO.none _
      | refine LeO.ite ?_ ?_
      | refine LeO.bind ?_ (fun _ => ?_)
    · intro y0 y1 y2 y3 y4
      unfold glossatorlaw12_LexWhole.j1
      repeat' first
      | (with_reducible exact ih0 _ _ _ _)
      | (with_reducible exact ih1 _ _ _ _ _)
      | (with_reducible exact glossatorlaw12_awake.mono _)
      | (with_reducible exact LeO.refl _)
      | (with_reducible exact LeO.none _)
      | (with_reducible refine LeO.ite ?_ ?_)
      | (with_reducible refine LeO.bind ?_ (fun _ => ?_))
      | exact ih0 _ _ _ _
      | exact ih1 _ _ _ _ _
      | exact glossatorlaw12_awake.mono _
      | exact LeO.none _
      | refine LeO.ite ?_ ?_
      | refine LeO.bind ?_ (fun _ => ?_)
theorem glossatorlaw12_LexWhole.mono : ∀ a0 k, LeO (glossatorlaw12_LexWhole.f k a0) (glossatorlaw12_LexWhole.f (k + 1) a0) := by
  intro a0 k
  obtain ⟨ih0, ih1⟩ := glossatorlaw12_LexWhole.mono_l k
  unfold glossatorlaw12_LexWhole.f
  repeat' first
      | (with_reducible exact ih0 _ _ _ _)
      | (with_reducible exact ih1 _ _ _ _ _)
      | (with_reducible exact glossatorlaw12_awake.mono _)
      | (with_reducible exact LeO.refl _)
      | (with_reducible exact LeO.none _)
      | (with_reducible refine LeO.ite ?_ ?_)
      | (with_reducible refine LeO.bind ?_ (fun _ => ?_))
      | exact ih0 _ _ _ _
      | exact ih1 _ _ _ _ _
      | exact glossatorlaw12_awake.mono _
      | exact LeO.none _
      | refine LeO.ite ?_ ?_
      | refine LeO.bind ?_ (fun _ => ?_)
set_option maxHeartbeats 8000000 in
set_option maxRecDepth 100000 in
theorem glossatorlaw12_LexWhole.calls (k : Nat) (a0 : ByteArray) (r : Bool) (w : World) (h : glossatorlaw12_LexWhole.f k a0 = some r) (hT : G.Tabs w) :
    Calls Tryd.prog 9 #[.string a0] w fun e w' => e = .returned (.bool r) ∧ Below w.heap.size w w' := by
  have HT := Aside0.mk hT
  clear hT
  have HB := Aside0.mk (Below.refl w.heap.size w)
  have H : (if (a0.size : Int) > 40000 then ((glossatorlaw12_awake.f k).bind fun t263 => (some t263)) else ((G.lex_All.f a0).bind fun t264 => (glossatorlaw12_LexWhole.l0 k a0 t264 0 0))) = some r := h
  clear h
  by_cases c2 : (a0.size : Int) > 40000
  · rw [if_pos c2] at H
    have c2b0 : decide (40000 < (a0.size : Int)) = true := decide_eq_true c2
    have c2b1 : decide (40000 < a0.size) = true := decide_eq_true (by omega)
    clear c2
    replace H := Option.bind_eq_some_iff.mp H
    obtain ⟨t263, A30, H⟩ := H
    replace H : (some t263) = some r := H
    have A3 := Aside0.mk A30
    clear A30
    obtain rfl := Option.some.inj H
    go_enter Tryd.func9, Tryd.ntmps9
    go_wp2_with (first | ((with_reducible refine gate_callee (f := 27) rfl ?_); refine goesL_ (some 10) rfl rfl Tryd.func27 (by kernel_rfl) rfl #[] rfl (by (try simp only [List.map_toArray, List.map_cons, List.map_nil]); first | done | rfl | (simp only [List.length_drop, List.length_take]; rfl)) ?_; (with_reducible refine (glossatorlaw12_awake.calls k  t263 _ A3.out (G.tabs_below HT.out (by repeat (first | (with_reducible first | exact HB.out | apply below_alloc | apply pw_below_drewN | apply below_drew1) | exact HB.out)))).mono ?_); rintro e w4 ⟨rfl, hb⟩; refine ⟨_, rfl, ?_⟩; have n0_ := Aside0.mk (below_step (by repeat (first | (with_reducible first | exact HB.out | apply below_alloc | apply pw_below_drewN | apply below_drew1) | exact HB.out)) hb); clear HB; have HB := n0_; clear n0_; (try clear hb); (try clear hb2); (try clear hk); (try clear hi)))
    go_ret
    exact ⟨by first | rfl | (simp [errW_none, errW_some] <;> rfl) | (simp [*, errW_none, errW_some] <;> rfl), by repeat (first | (with_reducible first | exact HB.out | apply below_alloc | apply pw_below_drewN | apply below_drew1) | exact HB.out)⟩
  · rw [if_neg c2] at H
    have c2b0 : decide (40000 < (a0.size : Int)) = false := decide_eq_false c2
    have c2b1 : decide (40000 < a0.size) = false := decide_eq_false (by omega)
    clear c2
    replace H := Option.bind_eq_some_iff.mp H
    obtain ⟨t264, A50, H⟩ := H
    replace H : (glossatorlaw12_LexWhole.l0 k a0 t264 0 0) = some r := H
    have A5 := Aside0.mk A50
    clear A50
    have H' := Aside0.mk H
    clear H
    go_enter Tryd.func9, Tryd.ntmps9
    go_wp2_with (first | ((with_reducible refine gate_callee (f := 20) rfl ?_); refine goesL_ (some 12) rfl rfl Tryd.func20 (by kernel_rfl) rfl #[.string a0] rfl (by (try simp only [List.map_toArray, List.map_cons, List.map_nil]); first | done | rfl | (simp only [List.length_drop, List.length_take]; rfl)) ?_; (with_reducible refine (G.lex_All.calls a0 t264 _ A5.out (G.tabs_below HT.out (by repeat (first | (with_reducible first | exact HB.out | apply below_alloc | apply pw_below_drewN | apply below_drew1) | exact HB.out)))).mono ?_); rintro e w6 ⟨v265, rfl, ho0, hb⟩; refine ⟨_, rfl, ?_⟩; have n0_ := Aside0.mk (Kd.R_lower ho0 (below_size (by repeat (first | (with_reducible first | exact HB.out | apply below_alloc | apply pw_below_drewN | apply below_drew1) | exact HB.out)))); have n1_ := Aside0.mk (below_step (by repeat (first | (with_reducible first | exact HB.out | apply below_alloc | apply pw_below_drewN | apply below_drew1) | exact HB.out)) hb); clear HB; have HO266 := n0_; have HB := n1_; clear n0_ n1_; (try clear hb); (try clear hb2); (try clear hk); (try clear hi); (try clear ho0)))
    go_loopg [4, 5] k (fun kq v4 v5 w' => ∃ (x4_1 : Int) (x5_1 : Int), v4 = .int .i64 x4_1 ∧ v5 = .int .i64 x5_1 ∧ Aside0 (glossatorlaw12_LexWhole.l0 kq a0 t264 x4_1 x5_1 = some r) ∧ Aside0 (kq ≤ k) ∧ Aside0 (Kd.R k23 23 w' w.heap.size (fun _ => True) v265 t264) ∧ Aside0 (Below w.heap.size w w'))
    case atStart => exact ⟨(0), (0), (by first | rfl | (simp; done) | (simp [*]; done)), (by first | rfl | (simp; done) | (simp [*]; done)), H', ⟨Nat.le_refl _⟩, ⟨by (with_reducible repeat (first | apply Kd.R_alloc | apply Kd.R_drewN | apply Kd.R_drew)); exact HO266.out⟩, ⟨by repeat (first | (with_reducible first | exact HB.out | apply below_alloc | apply pw_below_drewN | apply below_drew1) | exact HB.out)⟩⟩
    case round =>
      clear H'
      try clear c2
      try clear c2b0
      try clear c2b1
      try clear p2
      obtain ⟨x4_1, x5_1, rfl, rfl, HA, HK1, HO_3, HB⟩ := hrel
      cases gk with
      | zero => exact absurd HA.out (by simp [glossatorlaw12_LexWhole.l0])
      | succ k1 =>
        have H := HA.out
        clear HA
        simp only [glossatorlaw12_LexWhole.l0] at H
        by_cases c7 : x5_1 < (t264.length : Int)
        · rw [if_pos c7] at H
          have c7b0 : decide (x5_1 < (t264.length : Int)) = true := decide_eq_true c7
          clear c7
          have HC8 := Aside0.mk H
          clear H
          obtain ⟨Ao9, co9, eo9⟩ := Kd.R_slice HO_3.out
          subst eo9
          go_upto_region 8 with (fail)
          go_cut [32] (fun v32 wc => ∃ (kq : Nat) (x32_7 : Bool), v32 = .bool x32_7 ∧ Aside0 (glossatorlaw12_LexWhole.j1 kq a0 t264 x4_1 x5_1 x32_7 = some r) ∧ Aside0 (kq ≤ k1) ∧ Aside0 (Kd.R k23 23 wc w.heap.size (fun _ => True) (.slice Ao9 t264.length co9) t264) ∧ Aside0 (Below w.heap.size w wc))
          case first =>
            have H := HC8.out
            clear HC8
            by_cases c10 : 0 ≤ x5_1
            · rw [if_pos c10] at H
              have c10b0 : decide (0 ≤ x5_1) = true := decide_eq_true c10
              clear c10
              (first | rw [c10b0] | (simp only [i64_w, i32_w]; rw [c10b0]) | skip)
              by_cases c11 : ((rd_T23 t264 x5_1).f1) < 1
              · rw [if_pos c11] at H
                have c11b0 : decide (((rd_T23 t264 x5_1).f1) < 1) = true := decide_eq_true c11
                clear c11
                have H' := Aside0.mk H
                clear H
                have p268 : 0 ≤ (x5_1 : Int) := of_decide_eq_true (by first | (with_reducible assumption) | assumption)
                have q268 : x5_1 < (t264.length : Int) := of_decide_eq_true (by first | (with_reducible assumption) | assumption)
                obtain ⟨ad268, e268, hx268_0, hx268_1, hx268_2⟩ := at_T23 (Kd.R_reads' HO_3.out).2.2 x5_1 p268 q268
                cases e268
                replace p268 := eq_true p268
                replace q268 := eq_true q268
                go_wp2
                go_meet
                case rel => exact ⟨_, (true), (by first | rfl | (simp; done) | (simp [*]; done)), H', ⟨by have := HK1.out; first | omega | exact Nat.le_refl _⟩, ⟨by (with_reducible repeat (first | apply Kd.R_alloc | apply Kd.R_drewN | apply Kd.R_drew)); exact HO_3.out⟩, ⟨by repeat (first | (with_reducible first | exact HB.out | apply below_alloc | apply pw_below_drewN | apply below_drew1) | exact HB.out)⟩⟩
              · rw [if_neg c11] at H
                have c11b0 : decide (((rd_T23 t264 x5_1).f1) < 1) = false := decide_eq_false c11
                clear c11
                have H' := Aside0.mk H
                clear H
                have p268 : 0 ≤ (x5_1 : Int) := of_decide_eq_true (by first | (with_reducible assumption) | assumption)
                have q268 : x5_1 < (t264.length : Int) := of_decide_eq_true (by first | (with_reducible assumption) | assumption)
                obtain ⟨ad268, e268, hx268_0, hx268_1, hx268_2⟩ := at_T23 (Kd.R_reads' HO_3.out).2.2 x5_1 p268 q268
                cases e268
                replace p268 := eq_true p268
                replace q268 := eq_true q268
                have p269 : 0 ≤ (x5_1 : Int) := of_decide_eq_true (by first | (with_reducible assumption) | assumption)
                have q269 : x5_1 < (t264.length : Int) := of_decide_eq_true (by first | (with_reducible assumption) | assumption)
                obtain ⟨ad269, e269, hx269_0, hx269_1, hx269_2⟩ := at_T23 (Kd.R_reads' HO_3.out).2.2 x5_1 p269 q269
                obtain rfl : ad268 = ad269 := (by injection e269)
                replace p269 := eq_true p269
                replace q269 := eq_true q269
                go_wp2
                go_meet
                case rel => exact ⟨_, (decide (((rd_T23 t264 x5_1).f2) < 0)), (by first | rfl | (simp; done) | (simp [*]; done)), H', ⟨by have := HK1.out; first | omega | exact Nat.le_refl _⟩, ⟨by (with_reducible repeat (first | apply Kd.R_alloc | apply Kd.R_drewN | apply Kd.R_drew)); exact HO_3.out⟩, ⟨by repeat (first | (with_reducible first | exact HB.out | apply below_alloc | apply pw_below_drewN | apply below_drew1) | exact HB.out)⟩⟩
            · rw [if_neg c10] at H
              exact absurd H (by simp)
          case rest =>
            clear HC8
            try clear c1
            try clear c2
            try clear c2b0
            try clear c2b1
            try clear p2
            try clear q2
            try clear hx2
            try clear c7
            try clear c7b0
            try clear c9
            try clear c10
            try clear c10b0
            try clear c11
            try clear c11b0
            try clear hx268_0
            try clear hx268_1
            try clear hx268_2
            try clear hx269_0
            try clear hx269_1
            try clear hx269_2
            try clear p2
            try clear p268
            try clear p269
            try clear q268
            try clear q269
            obtain ⟨kq, x32_7, rfl, HA, HJ7, HO_3, HB⟩ := hcut
            cases kq with
            | zero => exact absurd HA.out (by simp [glossatorlaw12_LexWhole.j1])
            | succ kj7 =>
              have H := HA.out
              clear HA
              simp only [glossatorlaw12_LexWhole.j1] at H
              by_cases c12 : x32_7 = true
              · subst c12
                have H1 : (some false) = some r := by rw [if_pos rfl] at H; exact H
                clear H
                have H := H1
                clear H1
                obtain rfl := Option.some.inj H
                go_wp2
                go_ret
                exact ⟨by first | rfl | (simp [errW_none, errW_some] <;> rfl) | (simp [*, errW_none, errW_some] <;> rfl), by repeat (first | (with_reducible first | exact HB.out | apply below_alloc | apply pw_below_drewN | apply below_drew1) | exact HB.out)⟩
              · replace c12 := Bool.eq_false_iff.mpr c12
                subst c12
                have H1 : (if 0 ≤ x5_1 then (if x5_1 < (t264.length : Int) then (if x5_1 > 0 then (if ((rd_T23 t264 x5_1).f0) = 1 then (if 0 ≤ (wrap64 (x5_1 - 1)) then (if (wrap64 (x5_1 - 1)) < (t264.length : Int) then (if ((rd_T23 t264 (wrap64 (x5_1 - 1))).f0) = 1 then (some false) else (if ((rd_T23 t264 (wrap64 (x5_1 - 1))).f0) = 2 then (if (((rd_T23 t264 x5_1).f0) = 1) then (glossatorlaw12_LexWhole.l0 kj7 a0 t264 (wrap64 (x4_1 + ((rd_T23 t264 x5_1).f1))) (wrap64 (x5_1 + 1))) else (some false)) else (glossatorlaw12_LexWhole.l0 kj7 a0 t264 (wrap64 (x4_1 + ((rd_T23 t264 x5_1).f1))) (wrap64 (x5_1 + 1))))) else (none)) else (none)) else (if 0 ≤ (wrap64 (x5_1 - 1)) then (if (wrap64 (x5_1 - 1)) < (t264.length : Int) then (if ((rd_T23 t264 (wrap64 (x5_1 - 1))).f0) = 2 then (if (((rd_T23 t264 x5_1).f0) = 1) then (glossatorlaw12_LexWhole.l0 kj7 a0 t264 (wrap64 (x4_1 + ((rd_T23 t264 x5_1).f1))) (wrap64 (x5_1 + 1))) else (some false)) else (glossatorlaw12_LexWhole.l0 kj7 a0 t264 (wrap64 (x4_1 + ((rd_T23 t264 x5_1).f1))) (wrap64 (x5_1 + 1)))) else (none)) else (none))) else (glossatorlaw12_LexWhole.l0 kj7 a0 t264 (wrap64 (x4_1 + ((rd_T23 t264 x5_1).f1))) (wrap64 (x5_1 + 1)))) else (none)) else (none)) = some r := by rw [if_neg (show ¬ (false = true) by decide)] at H; exact H
                clear H
                have H := H1
                clear H1
                by_cases c13 : 0 ≤ x5_1
                · rw [if_pos c13] at H
                  have c13b0 : decide (0 ≤ x5_1) = true := decide_eq_true c13
                  clear c13
                  by_cases c14 : x5_1 < (t264.length : Int)
                  · rw [if_pos c14] at H
                    have c14b0 : decide (x5_1 < (t264.length : Int)) = true := decide_eq_true c14
                    clear c14
                    by_cases c15 : x5_1 > 0
                    · rw [if_pos c15] at H
                      have c15b0 : decide (0 < x5_1) = true := decide_eq_true c15
                      clear c15
                      by_cases c16 : ((rd_T23 t264 x5_1).f0) = 1
                      · rw [if_pos c16] at H
                        have c16b0 : (((rd_T23 t264 x5_1).f0) == 1) = true := beq_iff_eq.mpr c16
                        have c16b1 : (((rd_T23 t264 x5_1).f0) != 1) = false := bne_eq_false_iff_eq.mpr c16
                        clear c16
                        obtain ⟨ji17, hji17⟩ : ∃ j_ : Int, (wrap64 (x5_1 - 1)) = j_ := ⟨_, rfl⟩
                        replace H : (if 0 ≤ (ji17) then (if (ji17) < (t264.length : Int) then (if ((rd_T23 t264 (ji17)).f0) = 1 then (some false) else (if ((rd_T23 t264 (ji17)).f0) = 2 then (if (((rd_T23 t264 x5_1).f0) = 1) then (glossatorlaw12_LexWhole.l0 kj7 a0 t264 (wrap64 (x4_1 + ((rd_T23 t264 x5_1).f1))) (wrap64 (x5_1 + 1))) else (some false)) else (glossatorlaw12_LexWhole.l0 kj7 a0 t264 (wrap64 (x4_1 + ((rd_T23 t264 x5_1).f1))) (wrap64 (x5_1 + 1))))) else (none)) else (none)) = some r := by first | (rw [hji17] at H; exact H) | (simp only [hji17] at H ⊢; exact H)
                        have hji17w : (IntKind.i64.wrap (x5_1 - 1)) = ji17 := (i64_w _).trans hji17
                        by_cases c18 : 0 ≤ (ji17)
                        · rw [if_pos c18] at H
                          have c18b0 : decide (0 ≤ (ji17)) = true := decide_eq_true c18
                          clear c18
                          by_cases c19 : (ji17) < (t264.length : Int)
                          · rw [if_pos c19] at H
                            have c19b0 : decide ((ji17) < (t264.length : Int)) = true := decide_eq_true c19
                            clear c19
                            by_cases c20 : ((rd_T23 t264 (ji17)).f0) = 1
                            · rw [if_pos c20] at H
                              have c20b0 : (((rd_T23 t264 (ji17)).f0) == 1) = true := beq_iff_eq.mpr c20
                              have c20b1 : (((rd_T23 t264 (ji17)).f0) != 1) = false := bne_eq_false_iff_eq.mpr c20
                              clear c20
                              obtain rfl := Option.some.inj H
                              have p270 : 0 ≤ (x5_1 : Int) := of_decide_eq_true (by first | (with_reducible assumption) | assumption)
                              have q270 : x5_1 < (t264.length : Int) := of_decide_eq_true (by first | (with_reducible assumption) | assumption)
                              obtain ⟨ad270, e270, hx270_0, hx270_1, hx270_2⟩ := at_T23 (Kd.R_reads' HO_3.out).2.2 x5_1 p270 q270
                              cases e270
                              replace p270 := eq_true p270
                              replace q270 := eq_true q270
                              have p271 : 0 ≤ (x5_1 : Int) := of_decide_eq_true (by first | (with_reducible assumption) | assumption)
                              have q271 : x5_1 < (t264.length : Int) := of_decide_eq_true (by first | (with_reducible assumption) | assumption)
                              obtain ⟨ad271, e271, hx271_0, hx271_1, hx271_2⟩ := at_T23 (Kd.R_reads' HO_3.out).2.2 x5_1 p271 q271
                              obtain rfl : ad270 = ad271 := (by injection e271)
                              replace p271 := eq_true p271
                              replace q271 := eq_true q271
                              have p272 : 0 ≤ ((ji17) : Int) := of_decide_eq_true (by first | (with_reducible assumption) | assumption)
                              have q272 : (ji17) < (t264.length : Int) := of_decide_eq_true (by first | (with_reducible assumption) | assumption)
                              obtain ⟨ad272, e272, hx272_0, hx272_1, hx272_2⟩ := at_T23 (Kd.R_reads' HO_3.out).2.2 (ji17) p272 q272
                              obtain rfl : ad270 = ad272 := (by injection e272)
                              replace p272 := eq_true p272
                              replace q272 := eq_true q272
                              go_wp2
                              go_ret
                              exact ⟨by first | rfl | (simp [errW_none, errW_some] <;> rfl) | (simp only [← hji17]; first | rfl | (simp [errW_none, errW_some] <;> rfl)) | (simp [*, errW_none, errW_some] <;> rfl), by repeat (first | (with_reducible first | exact HB.out | apply below_alloc | apply pw_below_drewN | apply below_drew1) | exact HB.out)⟩
                            · rw [if_neg c20] at H
                              have c20b0 : (((rd_T23 t264 (ji17)).f0) == 1) = false := beq_eq_false_iff_ne.mpr c20
                              have c20b1 : (((rd_T23 t264 (ji17)).f0) != 1) = true := bne_iff_ne.mpr c20
                              by_cases c21 : ((rd_T23 t264 (ji17)).f0) = 2
                              · rw [if_pos c21] at H
                                have c21b0 : (((rd_T23 t264 (ji17)).f0) == 2) = true := beq_iff_eq.mpr c21
                                have c21b1 : (((rd_T23 t264 (ji17)).f0) != 2) = false := bne_eq_false_iff_eq.mpr c21
                                clear c21
                                by_cases c22 : (((rd_T23 t264 x5_1).f0) = 1)
                                · rw [if_pos c22] at H
                                  have c22b0 : (((rd_T23 t264 x5_1).f0) == 1) = true := beq_iff_eq.mpr c22
                                  have c22b1 : (((rd_T23 t264 x5_1).f0) != 1) = false := bne_eq_false_iff_eq.mpr c22
                                  clear c22
                                  have H' := Aside0.mk H
                                  clear H
                                  have p270 : 0 ≤ (x5_1 : Int) := of_decide_eq_true (by first | (with_reducible assumption) | assumption)
                                  have q270 : x5_1 < (t264.length : Int) := of_decide_eq_true (by first | (with_reducible assumption) | assumption)
                                  obtain ⟨ad270, e270, hx270_0, hx270_1, hx270_2⟩ := at_T23 (Kd.R_reads' HO_3.out).2.2 x5_1 p270 q270
                                  cases e270
                                  replace p270 := eq_true p270
                                  replace q270 := eq_true q270
                                  have p271 : 0 ≤ (x5_1 : Int) := of_decide_eq_true (by first | (with_reducible assumption) | assumption)
                                  have q271 : x5_1 < (t264.length : Int) := of_decide_eq_true (by first | (with_reducible assumption) | assumption)
                                  obtain ⟨ad271, e271, hx271_0, hx271_1, hx271_2⟩ := at_T23 (Kd.R_reads' HO_3.out).2.2 x5_1 p271 q271
                                  obtain rfl : ad270 = ad271 := (by injection e271)
                                  replace p271 := eq_true p271
                                  replace q271 := eq_true q271
                                  have p272 : 0 ≤ ((ji17) : Int) := of_decide_eq_true (by first | (with_reducible assumption) | assumption)
                                  have q272 : (ji17) < (t264.length : Int) := of_decide_eq_true (by first | (with_reducible assumption) | assumption)
                                  obtain ⟨ad272, e272, hx272_0, hx272_1, hx272_2⟩ := at_T23 (Kd.R_reads' HO_3.out).2.2 (ji17) p272 q272
                                  obtain rfl : ad270 = ad272 := (by injection e272)
                                  replace p272 := eq_true p272
                                  replace q272 := eq_true q272
                                  have p273 : 0 ≤ ((ji17) : Int) := of_decide_eq_true (by first | (with_reducible assumption) | assumption)
                                  have q273 : (ji17) < (t264.length : Int) := of_decide_eq_true (by first | (with_reducible assumption) | assumption)
                                  obtain ⟨ad273, e273, hx273_0, hx273_1, hx273_2⟩ := at_T23 (Kd.R_reads' HO_3.out).2.2 (ji17) p273 q273
                                  obtain rfl : ad270 = ad273 := (by injection e273)
                                  replace p273 := eq_true p273
                                  replace q273 := eq_true q273
                                  go_wp2
                                  go_roundg kj7
                                  case measure => have := HK1.out; have := HJ7.out; omega
                                  case rel => exact ⟨(wrap64 (x4_1 + ((rd_T23 t264 x5_1).f1))), (wrap64 (x5_1 + 1)), (by first | rfl | (simp; done) | (simp [*]; done)), (by first | rfl | (simp; done) | (simp [*]; done)), H', ⟨by have := HK1.out; have := HJ7.out; omega⟩, ⟨by (with_reducible repeat (first | apply Kd.R_alloc | apply Kd.R_drewN | apply Kd.R_drew)); exact HO_3.out⟩, ⟨by repeat (first | (with_reducible first | exact HB.out | apply below_alloc | apply pw_below_drewN | apply below_drew1) | exact HB.out)⟩⟩
                                · rw [if_neg c22] at H
                                  have c22b0 : (((rd_T23 t264 x5_1).f0) == 1) = false := beq_eq_false_iff_ne.mpr c22
                                  exact Bool.noConfusion (c16b0.symm.trans c22b0)
                              · rw [if_neg c21] at H
                                have c21b0 : (((rd_T23 t264 (ji17)).f0) == 2) = false := beq_eq_false_iff_ne.mpr c21
                                have c21b1 : (((rd_T23 t264 (ji17)).f0) != 2) = true := bne_iff_ne.mpr c21
                                have H' := Aside0.mk H
                                clear H
                                have p270 : 0 ≤ (x5_1 : Int) := of_decide_eq_true (by first | (with_reducible assumption) | assumption)
                                have q270 : x5_1 < (t264.length : Int) := of_decide_eq_true (by first | (with_reducible assumption) | assumption)
                                obtain ⟨ad270, e270, hx270_0, hx270_1, hx270_2⟩ := at_T23 (Kd.R_reads' HO_3.out).2.2 x5_1 p270 q270
                                cases e270
                                replace p270 := eq_true p270
                                replace q270 := eq_true q270
                                have p271 : 0 ≤ (x5_1 : Int) := of_decide_eq_true (by first | (with_reducible assumption) | assumption)
                                have q271 : x5_1 < (t264.length : Int) := of_decide_eq_true (by first | (with_reducible assumption) | assumption)
                                obtain ⟨ad271, e271, hx271_0, hx271_1, hx271_2⟩ := at_T23 (Kd.R_reads' HO_3.out).2.2 x5_1 p271 q271
                                obtain rfl : ad270 = ad271 := (by injection e271)
                                replace p271 := eq_true p271
                                replace q271 := eq_true q271
                                have p272 : 0 ≤ ((ji17) : Int) := of_decide_eq_true (by first | (with_reducible assumption) | assumption)
                                have q272 : (ji17) < (t264.length : Int) := of_decide_eq_true (by first | (with_reducible assumption) | assumption)
                                obtain ⟨ad272, e272, hx272_0, hx272_1, hx272_2⟩ := at_T23 (Kd.R_reads' HO_3.out).2.2 (ji17) p272 q272
                                obtain rfl : ad270 = ad272 := (by injection e272)
                                replace p272 := eq_true p272
                                replace q272 := eq_true q272
                                have p273 : 0 ≤ ((ji17) : Int) := of_decide_eq_true (by first | (with_reducible assumption) | assumption)
                                have q273 : (ji17) < (t264.length : Int) := of_decide_eq_true (by first | (with_reducible assumption) | assumption)
                                obtain ⟨ad273, e273, hx273_0, hx273_1, hx273_2⟩ := at_T23 (Kd.R_reads' HO_3.out).2.2 (ji17) p273 q273
                                obtain rfl : ad270 = ad273 := (by injection e273)
                                replace p273 := eq_true p273
                                replace q273 := eq_true q273
                                go_wp2
                                go_roundg kj7
                                case measure => have := HK1.out; have := HJ7.out; omega
                                case rel => exact ⟨(wrap64 (x4_1 + ((rd_T23 t264 x5_1).f1))), (wrap64 (x5_1 + 1)), (by first | rfl | (simp; done) | (simp [*]; done)), (by first | rfl | (simp; done) | (simp [*]; done)), H', ⟨by have := HK1.out; have := HJ7.out; omega⟩, ⟨by (with_reducible repeat (first | apply Kd.R_alloc | apply Kd.R_drewN | apply Kd.R_drew)); exact HO_3.out⟩, ⟨by repeat (first | (with_reducible first | exact HB.out | apply below_alloc | apply pw_below_drewN | apply below_drew1) | exact HB.out)⟩⟩
                          · rw [if_neg c19] at H
                            exact absurd H (by simp)
                        · rw [if_neg c18] at H
                          exact absurd H (by simp)
                      · rw [if_neg c16] at H
                        have c16b0 : (((rd_T23 t264 x5_1).f0) == 1) = false := beq_eq_false_iff_ne.mpr c16
                        have c16b1 : (((rd_T23 t264 x5_1).f0) != 1) = true := bne_iff_ne.mpr c16
                        obtain ⟨ji23, hji23⟩ : ∃ j_ : Int, (wrap64 (x5_1 - 1)) = j_ := ⟨_, rfl⟩
                        replace H : (if 0 ≤ (ji23) then (if (ji23) < (t264.length : Int) then (if ((rd_T23 t264 (ji23)).f0) = 2 then (if (((rd_T23 t264 x5_1).f0) = 1) then (glossatorlaw12_LexWhole.l0 kj7 a0 t264 (wrap64 (x4_1 + ((rd_T23 t264 x5_1).f1))) (wrap64 (x5_1 + 1))) else (some false)) else (glossatorlaw12_LexWhole.l0 kj7 a0 t264 (wrap64 (x4_1 + ((rd_T23 t264 x5_1).f1))) (wrap64 (x5_1 + 1)))) else (none)) else (none)) = some r := by first | (rw [hji23] at H; exact H) | (simp only [hji23] at H ⊢; exact H)
                        have hji23w : (IntKind.i64.wrap (x5_1 - 1)) = ji23 := (i64_w _).trans hji23
                        by_cases c24 : 0 ≤ (ji23)
                        · rw [if_pos c24] at H
                          have c24b0 : decide (0 ≤ (ji23)) = true := decide_eq_true c24
                          clear c24
                          by_cases c25 : (ji23) < (t264.length : Int)
                          · rw [if_pos c25] at H
                            have c25b0 : decide ((ji23) < (t264.length : Int)) = true := decide_eq_true c25
                            clear c25
                            by_cases c26 : ((rd_T23 t264 (ji23)).f0) = 2
                            · rw [if_pos c26] at H
                              have c26b0 : (((rd_T23 t264 (ji23)).f0) == 2) = true := beq_iff_eq.mpr c26
                              have c26b1 : (((rd_T23 t264 (ji23)).f0) != 2) = false := bne_eq_false_iff_eq.mpr c26
                              clear c26
                              by_cases c27 : (((rd_T23 t264 x5_1).f0) = 1)
                              · rw [if_pos c27] at H
                                have c27b0 : (((rd_T23 t264 x5_1).f0) == 1) = true := beq_iff_eq.mpr c27
                                exact Bool.noConfusion (c27b0.symm.trans c16b0)
                              · rw [if_neg c27] at H
                                have c27b0 : (((rd_T23 t264 x5_1).f0) == 1) = false := beq_eq_false_iff_ne.mpr c27
                                have c27b1 : (((rd_T23 t264 x5_1).f0) != 1) = true := bne_iff_ne.mpr c27
                                obtain rfl := Option.some.inj H
                                have p270 : 0 ≤ (x5_1 : Int) := of_decide_eq_true (by first | (with_reducible assumption) | assumption)
                                have q270 : x5_1 < (t264.length : Int) := of_decide_eq_true (by first | (with_reducible assumption) | assumption)
                                obtain ⟨ad270, e270, hx270_0, hx270_1, hx270_2⟩ := at_T23 (Kd.R_reads' HO_3.out).2.2 x5_1 p270 q270
                                cases e270
                                replace p270 := eq_true p270
                                replace q270 := eq_true q270
                                have p271 : 0 ≤ (x5_1 : Int) := of_decide_eq_true (by first | (with_reducible assumption) | assumption)
                                have q271 : x5_1 < (t264.length : Int) := of_decide_eq_true (by first | (with_reducible assumption) | assumption)
                                obtain ⟨ad271, e271, hx271_0, hx271_1, hx271_2⟩ := at_T23 (Kd.R_reads' HO_3.out).2.2 x5_1 p271 q271
                                obtain rfl : ad270 = ad271 := (by injection e271)
                                replace p271 := eq_true p271
                                replace q271 := eq_true q271
                                have p274 : 0 ≤ ((ji23) : Int) := of_decide_eq_true (by first | (with_reducible assumption) | assumption)
                                have q274 : (ji23) < (t264.length : Int) := of_decide_eq_true (by first | (with_reducible assumption) | assumption)
                                obtain ⟨ad274, e274, hx274_0, hx274_1, hx274_2⟩ := at_T23 (Kd.R_reads' HO_3.out).2.2 (ji23) p274 q274
                                obtain rfl : ad270 = ad274 := (by injection e274)
                                replace p274 := eq_true p274
                                replace q274 := eq_true q274
                                go_wp2
                                go_ret
                                exact ⟨by first | rfl | (simp [errW_none, errW_some] <;> rfl) | (simp only [← hji23]; first | rfl | (simp [errW_none, errW_some] <;> rfl)) | (simp [*, errW_none, errW_some] <;> rfl), by repeat (first | (with_reducible first | exact HB.out | apply below_alloc | apply pw_below_drewN | apply below_drew1) | exact HB.out)⟩
                            · rw [if_neg c26] at H
                              have c26b0 : (((rd_T23 t264 (ji23)).f0) == 2) = false := beq_eq_false_iff_ne.mpr c26
                              have c26b1 : (((rd_T23 t264 (ji23)).f0) != 2) = true := bne_iff_ne.mpr c26
                              have H' := Aside0.mk H
                              clear H
                              have p270 : 0 ≤ (x5_1 : Int) := of_decide_eq_true (by first | (with_reducible assumption) | assumption)
                              have q270 : x5_1 < (t264.length : Int) := of_decide_eq_true (by first | (with_reducible assumption) | assumption)
                              obtain ⟨ad270, e270, hx270_0, hx270_1, hx270_2⟩ := at_T23 (Kd.R_reads' HO_3.out).2.2 x5_1 p270 q270
                              cases e270
                              replace p270 := eq_true p270
                              replace q270 := eq_true q270
                              have p271 : 0 ≤ (x5_1 : Int) := of_decide_eq_true (by first | (with_reducible assumption) | assumption)
                              have q271 : x5_1 < (t264.length : Int) := of_decide_eq_true (by first | (with_reducible assumption) | assumption)
                              obtain ⟨ad271, e271, hx271_0, hx271_1, hx271_2⟩ := at_T23 (Kd.R_reads' HO_3.out).2.2 x5_1 p271 q271
                              obtain rfl : ad270 = ad271 := (by injection e271)
                              replace p271 := eq_true p271
                              replace q271 := eq_true q271
                              have p274 : 0 ≤ ((ji23) : Int) := of_decide_eq_true (by first | (with_reducible assumption) | assumption)
                              have q274 : (ji23) < (t264.length : Int) := of_decide_eq_true (by first | (with_reducible assumption) | assumption)
                              obtain ⟨ad274, e274, hx274_0, hx274_1, hx274_2⟩ := at_T23 (Kd.R_reads' HO_3.out).2.2 (ji23) p274 q274
                              obtain rfl : ad270 = ad274 := (by injection e274)
                              replace p274 := eq_true p274
                              replace q274 := eq_true q274
                              go_wp2
                              go_roundg kj7
                              case measure => have := HK1.out; have := HJ7.out; omega
                              case rel => exact ⟨(wrap64 (x4_1 + ((rd_T23 t264 x5_1).f1))), (wrap64 (x5_1 + 1)), (by first | rfl | (simp; done) | (simp [*]; done)), (by first | rfl | (simp; done) | (simp [*]; done)), H', ⟨by have := HK1.out; have := HJ7.out; omega⟩, ⟨by (with_reducible repeat (first | apply Kd.R_alloc | apply Kd.R_drewN | apply Kd.R_drew)); exact HO_3.out⟩, ⟨by repeat (first | (with_reducible first | exact HB.out | apply below_alloc | apply pw_below_drewN | apply below_drew1) | exact HB.out)⟩⟩
                          · rw [if_neg c25] at H
                            exact absurd H (by simp)
                        · rw [if_neg c24] at H
                          exact absurd H (by simp)
                    · rw [if_neg c15] at H
                      have c15b0 : decide (0 < x5_1) = false := decide_eq_false c15
                      clear c15
                      have H' := Aside0.mk H
                      clear H
                      have p270 : 0 ≤ (x5_1 : Int) := of_decide_eq_true (by first | (with_reducible assumption) | assumption)
                      have q270 : x5_1 < (t264.length : Int) := of_decide_eq_true (by first | (with_reducible assumption) | assumption)
                      obtain ⟨ad270, e270, hx270_0, hx270_1, hx270_2⟩ := at_T23 (Kd.R_reads' HO_3.out).2.2 x5_1 p270 q270
                      cases e270
                      replace p270 := eq_true p270
                      replace q270 := eq_true q270
                      have p271 : 0 ≤ (x5_1 : Int) := of_decide_eq_true (by first | (with_reducible assumption) | assumption)
                      have q271 : x5_1 < (t264.length : Int) := of_decide_eq_true (by first | (with_reducible assumption) | assumption)
                      obtain ⟨ad271, e271, hx271_0, hx271_1, hx271_2⟩ := at_T23 (Kd.R_reads' HO_3.out).2.2 x5_1 p271 q271
                      obtain rfl : ad270 = ad271 := (by injection e271)
                      replace p271 := eq_true p271
                      replace q271 := eq_true q271
                      go_wp2
                      go_roundg kj7
                      case measure => have := HK1.out; have := HJ7.out; omega
                      case rel => exact ⟨(wrap64 (x4_1 + ((rd_T23 t264 x5_1).f1))), (wrap64 (x5_1 + 1)), (by first | rfl | (simp; done) | (simp [*]; done)), (by first | rfl | (simp; done) | (simp [*]; done)), H', ⟨by have := HK1.out; have := HJ7.out; omega⟩, ⟨by (with_reducible repeat (first | apply Kd.R_alloc | apply Kd.R_drewN | apply Kd.R_drew)); exact HO_3.out⟩, ⟨by repeat (first | (with_reducible first | exact HB.out | apply below_alloc | apply pw_below_drewN | apply below_drew1) | exact HB.out)⟩⟩
                  · rw [if_neg c14] at H
                    exact absurd H (by simp)
                · rw [if_neg c13] at H
                  exact absurd H (by simp)
        · rw [if_neg c7] at H
          have c7b0 : decide (x5_1 < (t264.length : Int)) = false := decide_eq_false c7
          clear c7
          by_cases c28 : x4_1 = (a0.size : Int)
          · rw [if_pos c28] at H
            have c28b0 : (x4_1 == (a0.size : Int)) = true := beq_iff_eq.mpr c28
            have c28b1 : (x4_1 != (a0.size : Int)) = false := bne_eq_false_iff_eq.mpr c28
            clear c28
            replace H := Option.bind_eq_some_iff.mp H
            obtain ⟨t267, A290, H⟩ := H
            replace H : (some t267) = some r := H
            have A29 := Aside0.mk A290
            clear A290
            obtain rfl := Option.some.inj H
            obtain ⟨Ao30, co30, eo30⟩ := Kd.R_slice HO_3.out
            subst eo30
            go_wp2_with (first | (go_at_call 27; (with_reducible refine (glossatorlaw12_awake.calls k1  t267 _ A29.out (G.tabs_below HT.out (by repeat (first | (with_reducible first | exact HB.out | apply below_alloc | apply pw_below_drewN | apply below_drew1) | exact HB.out)))).mono ?_); rintro e w31 ⟨rfl, hb⟩; have n0_ := Aside0.mk (Kd.R_below (by (with_reducible repeat (first | apply Kd.R_alloc | apply Kd.R_drewN | apply Kd.R_drew)); exact HO_3.out) hb); have n1_ := Aside0.mk (below_step (by repeat (first | (with_reducible first | exact HB.out | apply below_alloc | apply pw_below_drewN | apply below_drew1) | exact HB.out)) hb); clear HO_3; clear HB; have HO_3 := n0_; have HB := n1_; clear n0_ n1_; (try clear hb); (try clear hb2); (try clear hk); (try clear hi)))
            go_ret
            exact ⟨by first | rfl | (simp [errW_none, errW_some] <;> rfl) | (simp [*, errW_none, errW_some] <;> rfl), by repeat (first | (with_reducible first | exact HB.out | apply below_alloc | apply pw_below_drewN | apply below_drew1) | exact HB.out)⟩
          · rw [if_neg c28] at H
            have c28b0 : (x4_1 == (a0.size : Int)) = false := beq_eq_false_iff_ne.mpr c28
            have c28b1 : (x4_1 != (a0.size : Int)) = true := bne_iff_ne.mpr c28
            obtain rfl := Option.some.inj H
            obtain ⟨Ao32, co32, eo32⟩ := Kd.R_slice HO_3.out
            subst eo32
            go_wp2
            go_ret
            exact ⟨by first | rfl | (simp [errW_none, errW_some] <;> rfl) | (simp [*, errW_none, errW_some] <;> rfl), by repeat (first | (with_reducible first | exact HB.out | apply below_alloc | apply pw_below_drewN | apply below_drew1) | exact HB.out)⟩

/-- THE ONE PURE STATEMENT of glossatorlaw12_LexWhole: yours. -/
def glossatorlaw12_LexWhole.Pure : Prop := ∀ (a0 : ByteArray), a0.size ≤ 140737488351232 → ∃ k, glossatorlaw12_LexWhole.f k a0 = some true
theorem glossatorlaw12_LexWhole.walk (P : glossatorlaw12_LexWhole.Pure) (a0 : ByteArray) (w : World) (w0 : a0.size ≤ 140737488351232) (hT : G.Tabs w) :
    Calls Tryd.prog 9 #[.string a0] w fun e w' => e = .returned (.bool true) ∧ Below w.heap.size w w' := by
  obtain ⟨k, h⟩ := P a0 w0
  refine (glossatorlaw12_LexWhole.calls k a0 true w h hT).mono ?_
  rintro e w' ⟨rfl, hd⟩
  exact ⟨rfl, hd⟩

end Go.Proofs.YtdnkjfcndjmdbaaDoor.Q
