/- lex.Counts, walked. -/
import Derived.Test.YtdnkjfcndjmdbaaDoorGj
import Derived.Test.YtdnkjfcndjmdbaaDoorQx13
namespace Go.Proofs.YtdnkjfcndjmdbaaDoor.G
open Go.RowKit Go.Shelf Go.Proofs.YtdnkjfcndjmdbaaDoorW.PrintWords Go.Proofs.YtdnkjfcndjmdbaaDoorW.PrintLast Go.Proofs.YtdnkjfcndjmdbaaDoorW.PrintMore
open Q (S23 k23)

def trivL : List Int := [0, 1, 2, 3, 4, 5, 9]
theorem triv_has : ∀ n : Nat, n < 256 → Q.slices_Contains_uint8_uint8.f 20 trivL n = some (trivL.contains (n : Int)) := by decide +kernel
set_option maxHeartbeats 1000000 in
theorem trivia_calls (w : World) : Calls Tryd.prog 83 #[] w fun e w' => e = .returned (.agg #[.int .u8 0, .int .u8 1, .int .u8 2, .int .u8 3, .int .u8 4, .int .u8 5, .int .u8 9]) ∧ Below w.heap.size w w' := by
  go_enter Tryd.func83, Tryd.ntmps83
  go_wp2
  exact bodyPost_ret (results_cell_row rfl _ _ w.heap.size _ #[.int .u8 0, .int .u8 1, .int .u8 2, .int .u8 3, .int .u8 4, .int .u8 5, .int .u8 9] _ _ rfl (World.alloc_heap_new w _) Tryd.underlying101 rfl (by kernel_rfl)) rfl ⟨rfl, (Below.refl _ _).alloc (Nat.le_refl _) _⟩
theorem triv_reads {W : World} {b t : Nat} (h : W.heap[b]? = some (.cells #[.int .u8 0, .int .u8 1, .int .u8 2, .int .u8 3, .int .u8 4, .int .u8 5, .int .u8 9] t (0, 0))) : Kd.C (Kd.int .u8) W (some ⟨b, 0, none⟩) trivL.length trivL := by
  refine ⟨rfl, by decide, fun _ => ⟨_, rfl, fun j p hj => ⟨[.int .u8 p], rfl, rfl, fun i u hu => ?_⟩⟩⟩
  cases i with
  | succ i => simp at hu
  | zero =>
    simp at hu
    subst hu
    match j, hj with
    | 0, hj | 1, hj | 2, hj | 3, hj | 4, hj | 5, hj | 6, hj => simp [trivL] at hj; subst hj; exact (blk_cell h _).trans rfl
    | j + 7, hj => simp [trivL] at hj
def countsB (k : Int) : Bool := decide (k ≤ 40) && (decide (k ≤ 17) || decide (20 ≤ k)) && !trivL.contains k
def lex_Counts.f (a0 : Int) : Option Bool := if 0 ≤ a0 ∧ a0 < 256 then some (countsB a0) else none
set_option maxHeartbeats 4000000 in
set_option maxRecDepth 100000 in
theorem lex_Counts.calls (a0 : Int) (r : Bool) (w : World) (h : lex_Counts.f a0 = some r) :
    Calls Tryd.prog 77 #[.int .u8 a0] w fun e w' => e = .returned (.bool r) ∧ Below w.heap.size w w' := by
  unfold lex_Counts.f at h
  by_cases h0 : 0 ≤ a0 ∧ a0 < 256
  · rw [if_pos h0] at h
    obtain rfl := Option.some.inj h
    clear h
    obtain ⟨n, rfl⟩ := Int.eq_ofNat_of_zero_le h0.1
    have HH := Aside0.mk (triv_has n (by omega))
    go_enter Tryd.func77, Tryd.ntmps77
    by_cases h1 : (n : Int) ≤ 40
    · have d1 : decide ((n : Int) ≤ 40) = true := decide_eq_true h1
      by_cases h2 : (n : Int) ≤ 17
      · have d2 : decide ((n : Int) ≤ 17) = true := decide_eq_true h2
        go_wp2_with (first | (go_at_call 83; refine (trivia_calls _).mono ?_; rintro e w1 ⟨rfl, hb1⟩) | (go_at_call 84; refine (Q.slices_Contains_uint8_uint8.calls 20 _ 7 trivL n _ _ (triv_reads (World.alloc_heap_new w1 _)) (by decide) HH.out).mono ?_; rintro e w2 ⟨rfl, hb2⟩))
        all_goals go_ret
        all_goals exact ⟨ret_bool (by simp [countsB, d1, d2]), (hb1.alloc hb1.size _).trans (hb2.below.mono (Nat.le_trans hb1.size (by simp)))⟩
      · have d2 : decide ((n : Int) ≤ 17) = false := decide_eq_false h2
        by_cases h3 : (20 : Int) ≤ n
        · have d3 : decide ((20 : Int) ≤ (n : Int)) = true := decide_eq_true h3
          go_wp2_with (first | (go_at_call 83; refine (trivia_calls _).mono ?_; rintro e w1 ⟨rfl, hb1⟩) | (go_at_call 84; refine (Q.slices_Contains_uint8_uint8.calls 20 _ 7 trivL n _ _ (triv_reads (World.alloc_heap_new w1 _)) (by decide) HH.out).mono ?_; rintro e w2 ⟨rfl, hb2⟩))
          all_goals go_ret
          all_goals exact ⟨ret_bool (by simp [countsB, d1, d2, d3]), (hb1.alloc hb1.size _).trans (hb2.below.mono (Nat.le_trans hb1.size (by simp)))⟩
        · have d3 : decide ((20 : Int) ≤ (n : Int)) = false := decide_eq_false h3
          go_wp2_with (go_at_call 83; refine (trivia_calls _).mono ?_; rintro e w1 ⟨rfl, hb1⟩)
          all_goals go_ret
          all_goals exact ⟨ret_bool (by simp [countsB, d1, d2, d3]), hb1.alloc hb1.size _⟩
    · have d1 : decide ((n : Int) ≤ 40) = false := decide_eq_false h1
      go_wp2_with (go_at_call 83; refine (trivia_calls _).mono ?_; rintro e w1 ⟨rfl, hb1⟩)
      all_goals go_ret
      all_goals exact ⟨ret_bool (by simp [countsB, d1]), hb1.alloc hb1.size _⟩
  · rw [if_neg h0] at h; cases h
end Go.Proofs.YtdnkjfcndjmdbaaDoor.G
