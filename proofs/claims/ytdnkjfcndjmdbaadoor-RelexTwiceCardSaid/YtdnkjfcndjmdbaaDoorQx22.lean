-- WRITTEN BY wip/mprint.py, which runs the kit's print program with some functions taken as given (their contracts are proved by hand). Not trusted: Lean checks it.
import Derived.Test.YtdnkjfcndjmdbaaDoorQx0
import Derived.Test.YtdnkjfcndjmdbaaDoorQx1
import Derived.Test.YtdnkjfcndjmdbaaDoorQx19
import Derived.Test.YtdnkjfcndjmdbaaDoorGe
import Derived.Test.YtdnkjfcndjmdbaaDoorGq
import Derived.Test.YtdnkjfcndjmdbaaDoorGj
namespace Go.Proofs.YtdnkjfcndjmdbaaDoor.Q
open Go.RowKit Go.Proofs.YtdnkjfcndjmdbaaDoorW.PrintWords Go.Proofs.YtdnkjfcndjmdbaaDoorW.PrintLast Go.Proofs.YtdnkjfcndjmdbaaDoorW.PrintMore
attribute [local go_sem] max2_int min2_int max_two min_two max_three min_three max_four min_four   -- for this text's walks alone
set_option linter.unusedVariables false
set_option linter.unusedSimpArgs false

attribute [local go_sem high] eqA23
/-! ### glossatorlaw13_awake: function 29 -/
def glossatorlaw13_awake.f (k : Nat)  : Option (Bool) := (G.lex_All.f (⟨#[97, 32, 47, 32, 98]⟩ : ByteArray)).bind fun t461 => ((relex_Update.f k t461 (⟨#[97, 32, 47, 42, 32, 98]⟩ : ByteArray) 3 3 3 4).bind fun bt464 => (if bt464.2.2.2.2 = 0 then (if (bt464.1.length : Int) = 3 then (if 2 < (bt464.1.length : Int) then (if (((rd_T23 bt464.1 2).f0) == 4 && (((rd_T23 bt464.1 2).f1) == 4 && (((rd_T23 bt464.1 2).f2) == 1))) = true then (if bt464.2.1 = 2 then (if bt464.2.2.1 = 5 then (some (bt464.2.2.2.1 == 3)) else (some false)) else (some false)) else (some false)) else (none)) else (some false)) else (some false)))
theorem glossatorlaw13_awake.mono : ∀ k, LeO (glossatorlaw13_awake.f k ) (glossatorlaw13_awake.f (k + 1) ) := by
 intro  k
 unfold glossatorlaw13_awake.f
 repeat' first
   | (with_reducible exact relex_Update.mono _ _ _ _ _ _ _)
   | (with_reducible exact LeO.refl _)
   | (with_reducible exact LeO.none _)
   | (with_reducible refine LeO.ite ?_ ?_)
   | (with_reducible refine LeO.bind ?_ (fun _ => ?_))
   | exact relex_Update.mono _ _ _ _ _ _ _
   | exact LeO.none _
   | refine LeO.ite ?_ ?_
   | refine LeO.bind ?_ (fun _ => ?_)
set_option maxHeartbeats 8000000 in
set_option maxRecDepth 100000 in
theorem glossatorlaw13_awake.callsT (k : Nat)  (w : World) (h : glossatorlaw13_awake.f k  = some true) (hT : G.Tabs w) :
  Calls Tryd.prog 29 #[] w fun e w' => e = .returned (.bool true) ∧ Below w.heap.size w w' := by
 have HT := Aside0.mk hT; clear hT; have hu39 := Tryd.underlying39; have hu23 := Tryd.underlying23; have HB := Aside0.mk (Below.refl w.heap.size w); have H : ((G.lex_All.f (⟨#[97, 32, 47, 32, 98]⟩ : ByteArray)).bind fun t461 => ((relex_Update.f k t461 (⟨#[97, 32, 47, 42, 32, 98]⟩ : ByteArray) 3 3 3 4).bind fun bt464 => (if bt464.2.2.2.2 = 0 then (if (bt464.1.length : Int) = 3 then (if 2 < (bt464.1.length : Int) then (if (((rd_T23 bt464.1 2).f0) == 4 && (((rd_T23 bt464.1 2).f1) == 4 && (((rd_T23 bt464.1 2).f2) == 1))) = true then (if bt464.2.1 = 2 then (if bt464.2.2.1 = 5 then (some (bt464.2.2.2.1 == 3)) else (some false)) else (some false)) else (some false)) else (none)) else (some false)) else (some false)))) = some true := h; clear h; replace H := Option.bind_eq_some_iff.mp H; obtain ⟨t461, A10, H⟩ := H; replace H : ((relex_Update.f k t461 (⟨#[97, 32, 47, 42, 32, 98]⟩ : ByteArray) 3 3 3 4).bind fun bt464 => (if bt464.2.2.2.2 = 0 then (if (bt464.1.length : Int) = 3 then (if 2 < (bt464.1.length : Int) then (if (((rd_T23 bt464.1 2).f0) == 4 && (((rd_T23 bt464.1 2).f1) == 4 && (((rd_T23 bt464.1 2).f2) == 1))) = true then (if bt464.2.1 = 2 then (if bt464.2.2.1 = 5 then (some (bt464.2.2.2.1 == 3)) else (some false)) else (some false)) else (some false)) else (none)) else (some false)) else (some false))) = some true := H; have A1 := Aside0.mk A10; clear A10; replace H := Option.bind_eq_some_iff.mp H; obtain ⟨⟨t464, t467, t468, t469, t470⟩, A20, H⟩ := H; replace H : (if t470 = 0 then (if (t464.length : Int) = 3 then (if 2 < (t464.length : Int) then (if (((rd_T23 t464 2).f0) == 4 && (((rd_T23 t464 2).f1) == 4 && (((rd_T23 t464 2).f2) == 1))) = true then (if t467 = 2 then (if t468 = 5 then (some (t469 == 3)) else (some false)) else (some false)) else (some false)) else (none)) else (some false)) else (some false)) = some true := H; have A2 := Aside0.mk A20; clear A20
 by_cases c3 : t470 = 0
 ·rw [if_pos c3] at H; obtain ⟨c3b0, c3b1⟩ := G.qT c3; clear c3
  by_cases c4 : (t464.length : Int) = 3
  ·rw [if_pos c4] at H; obtain ⟨c4b0, c4b1⟩ := G.qT c4; clear c4
   by_cases c5 : 2 < (t464.length : Int)
   ·rw [if_pos c5] at H; have c5b0 : decide (2 < (t464.length : Int)) = true := decide_eq_true c5; have c5b1 : decide (2 < t464.length) = true := decide_eq_true (by omega); clear c5
    by_cases c6 : (((rd_T23 t464 2).f0) == 4 && (((rd_T23 t464 2).f1) == 4 && (((rd_T23 t464 2).f2) == 1))) = true
    ·rw [if_pos c6] at H; have c6b0 : (((rd_T23 t464 2).f0) == 4 && (((rd_T23 t464 2).f1) == 4 && (((rd_T23 t464 2).f2) == 1))) = true := c6; (try (have c6b1 : decide (((rd_T23 t464 2).f0) = 4 && (((rd_T23 t464 2).f1) == 4 && (((rd_T23 t464 2).f2) == 1))) = true := by simpa using c6)); (try (have c6b2 : (((rd_T23 t464 2).f0) == 4 && (((rd_T23 t464 2).f1) == 4 && (((rd_T23 t464 2).f2) == 1))) = true := by simpa using c6)); clear c6
     by_cases c7 : t467 = 2
     ·rw [if_pos c7] at H; obtain ⟨c7b0, c7b1⟩ := G.qT c7; clear c7
      by_cases c8 : t468 = 5
      ·rw [if_pos c8] at H; obtain ⟨c8b0, c8b1⟩ := G.qT c8; clear c8; have hq_ := Aside0.mk (Option.some.inj H)
       go_enter Tryd.func29, Tryd.ntmps29
       go_wp2_with (first | ((with_reducible refine gate_callee (f := 20) rfl ?_); refine goesL_ (some 7) rfl rfl Tryd.func20 (by kernel_rfl) rfl #[.string (⟨#[97, 32, 47, 32, 98]⟩ : ByteArray)] rfl (by (try simp only [List.map_toArray, List.map_cons, List.map_nil]); first | done | rfl | (simp only [List.length_drop, List.length_take]; rfl)) ?_; (with_reducible refine (G.lex_All.calls (⟨#[97, 32, 47, 32, 98]⟩ : ByteArray) t461 _ A1.out (G.tabs_below HT.out (by repeat (first | (with_reducible first | exact HB.out | apply below_alloc | apply pw_below_drewN | apply below_drew1) | exact HB.out)))).mono ?_); rintro e w9 ⟨v462, rfl, ho0, hb⟩; refine ⟨_, rfl, ?_⟩; have n0_ := Aside0.mk (Kd.R_lower ho0 (below_size (by repeat (first | (with_reducible first | exact HB.out | apply below_alloc | apply pw_below_drewN | apply below_drew1) | exact HB.out)))); have n1_ := Aside0.mk (below_step (by repeat (first | (with_reducible first | exact HB.out | apply below_alloc | apply pw_below_drewN | apply below_drew1) | exact HB.out)) hb); clear HB; have HO463 := n0_; have HB := n1_; clear n0_ n1_; (try clear hb); (try clear hb2); (try clear hk); (try clear hi); (try clear ho0); obtain ⟨Ao10, co10, eo10⟩ := Kd.R_slice HO463.out; subst eo10) | ((with_reducible refine gate_callee (f := 25) rfl ?_); refine goesL_ (some 10) rfl rfl Tryd.func25 (by kernel_rfl) rfl #[.slice Ao10 t461.length co10, .string (⟨#[97, 32, 47, 42, 32, 98]⟩ : ByteArray), .agg #[.int .i64 3, .int .i64 3], .agg #[.int .i64 3, .int .i64 4]] rfl (by (try simp only [List.map_toArray, List.map_cons, List.map_nil]); first | done | rfl | (simp only [List.length_drop, List.length_take]; rfl)) ?_; (with_reducible refine (relex_Update.calls k _ _ t461 (⟨#[97, 32, 47, 42, 32, 98]⟩ : ByteArray) 3 3 3 4 t464 t467 t468 t469 t470 _ ?side1 ?side2 A2.out (G.tabs_below HT.out (by repeat (first | (with_reducible first | exact HB.out | apply below_alloc | apply pw_below_drewN | apply below_drew1) | exact HB.out)))).mono ?_); (case side1 => repeat (first | exact (Kd.R_reads' HO463.out).2.2 | (with_reducible refine Kd.C_alloc ?_ _) | (with_reducible refine Kd.C_drewN ?_ _) | (with_reducible refine Kd.C_drew ?_))); (case side2 => exact (Kd.R_reads' HO463.out).2.1); rintro e w11 ⟨v465, rfl, ho0, hb⟩; refine ⟨_, rfl, ?_⟩; have n0_ := Aside0.mk (Kd.R_elder' (by (with_reducible repeat (first | apply Kd.R_alloc | apply Kd.R_drewN | apply Kd.R_drew)); exact HO463.out) (Kd.R_base ho0) hb); have n1_ := Aside0.mk (Kd.R_lower (Kd.R_new' ho0 (Kd.R_lt (by (with_reducible repeat (first | apply Kd.R_alloc | apply Kd.R_drewN | apply Kd.R_drew)); exact HO463.out))) (below_size (by repeat (first | (with_reducible first | exact HB.out | apply below_alloc | apply pw_below_drewN | apply below_drew1) | exact HB.out)))); have n2_ := Aside0.mk (below_step (by repeat (first | (with_reducible first | exact HB.out | apply below_alloc | apply pw_below_drewN | apply below_drew1) | exact HB.out)) hb); clear HO463; clear HB; have HO463 := n0_; have HO466 := n1_; have HB := n2_; clear n0_ n1_ n2_; (try clear hb); (try clear hb2); (try clear hk); (try clear hi); (try clear ho0); obtain ⟨Ao12, co12, eo12⟩ := Kd.R_slice HO466.out; subst eo12; have p471 : 0 ≤ (2 : Int) := (by omega); have q471 : 2 < (t464.length : Int) := of_decide_eq_true (by first | (with_reducible assumption) | assumption); obtain ⟨ad471, e471, hx471_0, hx471_1, hx471_2⟩ := at_T23 (Kd.R_reads' HO466.out).2.2 2 p471 q471; cases e471; (try simp only [show (2 : Int).toNat = 2 from rfl, Nat.reduceMul, Nat.reduceEqDiff, Go.Addr.add, ↓reduceIte] at hx471_0); (try simp only [show (2 : Int).toNat = 2 from rfl, Nat.reduceMul, Nat.reduceEqDiff, Go.Addr.add, ↓reduceIte] at hx471_1); (try simp only [show (2 : Int).toNat = 2 from rfl, Nat.reduceMul, Nat.reduceEqDiff, Go.Addr.add, ↓reduceIte] at hx471_2); have qi471 : (2 < t464.length) = True := eq_true (by omega); (try rw [show ((2 : Int)).toNat = 2 from rfl] at hx471_0); (try rw [show 2 * 3 = 6 from rfl] at hx471_0); (try rw [show ((2 : Int)).toNat = 2 from rfl] at hx471_1); (try rw [show 2 * 3 = 6 from rfl] at hx471_1); (try rw [show ((2 : Int)).toNat = 2 from rfl] at hx471_2); (try rw [show 2 * 3 = 6 from rfl] at hx471_2); replace p471 := eq_true p471; replace q471 := eq_true q471))
       go_ret
       exact ⟨by first | rfl | (rw [hq_.out]; done) | (simp [hq_.out]; done) | (simp [errW_none, errW_some] <;> rfl) | (simp [*, errW_none, errW_some] <;> rfl), by repeat (first | (with_reducible first | exact HB.out | apply below_alloc | apply pw_below_drewN | apply below_drew1) | exact HB.out)⟩
      ·rw [if_neg c8] at H; obtain ⟨c8b0, c8b1⟩ := G.qF c8; exact absurd H (by simp)
     ·rw [if_neg c7] at H; obtain ⟨c7b0, c7b1⟩ := G.qF c7; exact absurd H (by simp)
    ·rw [if_neg c6] at H
     have c6b0 : (((rd_T23 t464 2).f0) == 4 && (((rd_T23 t464 2).f1) == 4 && (((rd_T23 t464 2).f2) == 1))) = false := by simpa using c6
     (try (have c6b1 : decide (((rd_T23 t464 2).f0) = 4 && (((rd_T23 t464 2).f1) == 4 && (((rd_T23 t464 2).f2) == 1))) = false := by simpa using c6)); (try (have c6b2 : (((rd_T23 t464 2).f0) == 4 && (((rd_T23 t464 2).f1) == 4 && (((rd_T23 t464 2).f2) == 1))) = false := by simpa using c6)); (try (have c6b3 : ¬ (((rd_T23 t464 2).f0) = 4 && (((rd_T23 t464 2).f1) == 4 && (((rd_T23 t464 2).f2) == 1))) := by simpa using c6)); clear c6; exact absurd H (by simp)
   ·rw [if_neg c5] at H; exact absurd H (by simp)
  ·rw [if_neg c4] at H; obtain ⟨c4b0, c4b1⟩ := G.qF c4; exact absurd H (by simp)
 ·rw [if_neg c3] at H; obtain ⟨c3b0, c3b1⟩ := G.qF c3; exact absurd H (by simp)
theorem glossatorlaw13_awake.true_ : glossatorlaw13_awake.f 60 = some true := by decide +kernel
theorem glossatorlaw13_awake.calls (k : Nat) (r : Bool) (w : World) (h : glossatorlaw13_awake.f k = some r) (hT : G.Tabs w) :
  Calls Tryd.prog 29 #[] w fun e w' => e = .returned (.bool r) ∧ Below w.heap.size w w' := by
 have h1 := at_rounds (g := fun k => glossatorlaw13_awake.f k) (fun k => glossatorlaw13_awake.mono k) (Nat.le_max_left k 60) h; have h2 := at_rounds (g := fun k => glossatorlaw13_awake.f k) (fun k => glossatorlaw13_awake.mono k) (Nat.le_max_right k 60) glossatorlaw13_awake.true_; rw [h1] at h2; obtain rfl := Option.some.inj h2; exact glossatorlaw13_awake.callsT k w h hT

end Go.Proofs.YtdnkjfcndjmdbaaDoor.Q
