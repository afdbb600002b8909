/- The reference's Class (glossatorref11), walked: it tells the same class as the scanner's. -/
import Derived.Test.YtdnkjfcndjmdbaaDoorGa
namespace Go.Proofs.YtdnkjfcndjmdbaaDoor.G
open Go.RowKit Go.Proofs.YtdnkjfcndjmdbaaDoorW.PrintWords Go.Proofs.YtdnkjfcndjmdbaaDoorW.PrintLast Go.Proofs.YtdnkjfcndjmdbaaDoorW.PrintMore

def sgB : ByteArray := ⟨#[34, 92, 47, 42, 61, 33, 60, 62, 38, 124, 40, 41, 123, 125, 44, 59, 43, 45, 37]⟩
theorem sg_hit : ∀ k : Nat, k < 19 → cls (bt sgB k) = 5 + k ∧ wrap32 (bt sgB k) = bt sgB k := by decide +kernel
theorem sg_none : ∀ n : Nat, n < 127 → (∀ k : Nat, k < 19 → ((n : Nat) : Int) ≠ bt sgB k) → signAt n < 0 := by decide +kernel
theorem cls_none {r : Int} (h : ∀ k : Nat, k < 19 → r ≠ bt sgB k) :
    cls r = if r = 32 ∨ r = 9 then 1 else if r = 10 ∨ r = 13 then 2 else if r = 95 ∨ (97 ≤ r ∧ r ≤ 122) ∨ (65 ≤ r ∧ r ≤ 90) then 3 else if 48 ≤ r ∧ r ≤ 57 then 4 else 0 := by
  unfold cls
  by_cases h0 : r < 0 ∨ 126 < r
  · simp only [if_pos h0]
  · obtain ⟨n, rfl⟩ := Int.eq_ofNat_of_zero_le (show 0 ≤ r by omega)
    have := sg_none n (by omega) h
    rw [if_neg h0, if_neg (show ¬ 0 ≤ signAt (n : Int) by omega)]

def glossatorref11_Class.f (a0 : Int) : Option Int := some (cls a0)
set_option maxHeartbeats 1000000 in
set_option maxRecDepth 100000 in
theorem glossatorref11_Class.calls (a0 : Int) (r : Int) (w : World) (h : glossatorref11_Class.f a0 = some r) :
    Calls Tryd.prog 38 #[.int .i32 a0] w fun e w' => e = .returned (.int .i64 r) ∧ Drawn0 w w' := by
  obtain rfl := Option.some.inj h
  clear h
  go_enter Tryd.func38, Tryd.ntmps38
  go_wp2
  go_loop [4] (fun i => ∃ k : Nat, k ≤ 19 ∧ i = .int .i64 k ∧ Aside0 (∀ j : Nat, j < k → a0 ≠ bt sgB j)) (fun i => 19 - (intOf i).toNat)
  case atStart => exact ⟨0, by omega, rfl, ⟨fun j hj => by omega⟩⟩
  case round =>
    obtain ⟨k, hk, rfl, HA⟩ := hrel
    by_cases hlt : k < 19
    · have HB : Aside0 (∀ h : k < sgB.size, wrap32 ((sgB[k]'h).toNat : Int) = bt sgB k) := ⟨fun h => by
        have h1 := (sg_hit k hlt).2
        rw [← h1]; simp [bt, h]⟩
      go_wp2
      · go_ret
        refine ⟨ret_int ?_, Drawn0.refl _⟩
        have e := beq_iff_eq.1 ‹(a0 == _) = true›
        rw [e.trans (HB.out hlt), (sg_hit k hlt).1]
      · go_round
        case rel =>
          refine ⟨k + 1, by omega, by go_num, ⟨fun j hj => ?_⟩⟩
          by_cases e : j = k
          · subst e
            have e2 := beq_eq_false_iff_ne.1 ‹(a0 == _) = false›
            exact fun e3 => e2 (e3.trans (HB.out hlt).symm)
          · exact HA.out j (by omega)
        case measure => simp [intOf]; omega
    · obtain rfl : k = 19 := by omega
      have HC : Aside0 (cls a0 = if a0 = 32 ∨ a0 = 9 then 1 else if a0 = 10 ∨ a0 = 13 then 2 else if a0 = 95 ∨ (97 ≤ a0 ∧ a0 ≤ 122) ∨ (65 ≤ a0 ∧ a0 ≤ 90) then 3 else if 48 ≤ a0 ∧ a0 ≤ 57 then 4 else 0) := ⟨cls_none HA.out⟩
      go_wp2
      all_goals go_ret
      all_goals refine ⟨ret_int ?_, by repeat (first | exact Drawn0.refl _ | apply Drawn0.step)⟩
      all_goals try simp only [beq_iff_eq, beq_eq_false_iff_ne, ne_eq] at *
      all_goals first | decide +kernel | (rw [HC.out]; (repeat' split) <;> omega)
end Go.Proofs.YtdnkjfcndjmdbaaDoor.G
