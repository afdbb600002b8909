/- The scanner's transitions, walked: held, begun, goes. -/
import Derived.Test.YtdnkjfcndjmdbaaDoorGa
namespace Go.Proofs.YtdnkjfcndjmdbaaDoor.G
open Go.RowKit Go.Proofs.YtdnkjfcndjmdbaaDoorW.PrintWords Go.Proofs.YtdnkjfcndjmdbaaDoorW.PrintLast Go.Proofs.YtdnkjfcndjmdbaaDoorW.PrintMore

theorem ret_two {a b : Int} {c d : Bool} (h : a = b) (h' : c = d) : Ending.returned (.tuple #[.int .i64 a, .bool c]) = .returned (.tuple #[.int .i64 b, .bool d]) := by rw [h, h']
def heldB (s : Int) : Bool := decide (s = 3 ∨ s = 4 ∨ s = 5 ∨ s = 9 ∨ s = 10)
def heldF (s c : Int) : Int :=
  if s = 3 then (if c = 2 then -1 else 3)
  else if s = 4 ∨ s = 5 then (if c = 8 then 5 else if c = 7 ∧ s = 5 then 6 else 4)
  else if s = 9 then (if c = 5 then 11 else if c = 6 then 10 else if c = 2 then -1 else 9)
  else if s = 10 then (if c = 2 then -1 else 9) else -1

set_option maxHeartbeats 1000000 in
set_option maxRecDepth 100000 in
theorem held_calls (a0 a1 : Int) (w : World) :
    Calls Tryd.prog 60 #[.int .i64 a0, .int .i64 a1] w fun e w' => e = .returned (.tuple #[.int .i64 (heldF a0 a1), .bool (heldB a0)]) ∧ Drawn0 w w' := by
  go_enter Tryd.func60, Tryd.ntmps60
  go_wp2
  all_goals go_ret2
  all_goals refine ⟨ret_two ?_ ?_, Drawn0.refl _⟩
  all_goals try simp only [beq_iff_eq, beq_eq_false_iff_ne, ne_eq] at *
  all_goals first | (unfold heldF; (repeat' split) <;> omega) | (unfold heldB; exact (decide_eq_true (by omega)).symm) | (unfold heldB; exact (decide_eq_false (by omega)).symm)

theorem below_new_row (w : World) (o : Obj) (cs : Array Value) : Below w.heap.size w ((w.alloc o).setRow w.heap.size cs) := by
  have h := (Below.refl w.heap.size w).alloc (Nat.le_refl _) o
  exact ⟨h.os, h.tape, h.output, by rw [setRow_size]; exact h.size, fun i hi => by rw [setRow_other _ _ _ _ (by omega)]; exact h.block i hi⟩
def begT : List Int := [34, 1, 1, 7, 8, 9, 34, 2, 32, 12, 14, 16, 18, 20, 22, 24, 25, 26, 27, 28, 29, 30, 31, 33]
def begA : Array Value := #[.int .i64 34, .int .i64 1, .int .i64 1, .int .i64 7, .int .i64 8, .int .i64 9, .int .i64 34, .int .i64 2, .int .i64 32, .int .i64 12, .int .i64 14, .int .i64 16, .int .i64 18, .int .i64 20, .int .i64 22, .int .i64 24, .int .i64 25, .int .i64 26, .int .i64 27, .int .i64 28, .int .i64 29, .int .i64 30, .int .i64 31, .int .i64 33]
def begV : Value := .agg begA
theorem begun_build (w : World) : (Instr.build 85 #[(0, .int .i64 34), (1, .int .i64 1), (2, .int .i64 1), (3, .int .i64 7), (4, .int .i64 8), (5, .int .i64 9), (6, .int .i64 34), (7, .int .i64 2), (8, .int .i64 32), (9, .int .i64 12), (10, .int .i64 14), (11, .int .i64 16), (12, .int .i64 18), (13, .int .i64 20), (14, .int .i64 22), (15, .int .i64 24), (16, .int .i64 25), (17, .int .i64 26), (18, .int .i64 27), (19, .int .i64 28), (20, .int .i64 29), (21, .int .i64 30), (22, .int .i64 31), (23, .int .i64 33)]).run Tryd.prog w = .ok begV w := run_build w 85 _ _ (by kernel_rfl)
theorem begun_calls (w : World) :
    Calls Tryd.prog 61 #[] w fun e w' => e = .returned begV ∧ Below w.heap.size w w' := by
  have hb := begun_build
  go_enter Tryd.func61, Tryd.ntmps61
  go_wp2_with (refine wpList_store_row rfl 85 _ _ rfl w.heap.size begA rfl rfl _ _ (heap_alloc_new w _) (by kernel_rfl) (by rfl) (by kernel_rfl) ?_)
  exact bodyPost_ret (results_cell_row rfl _ _ w.heap.size _ begA _ _ rfl (setRow_heap _ _ _ _ _ _ (heap_alloc_new w _)) Tryd.underlying85 rfl (by kernel_rfl)) rfl ⟨rfl, below_new_row w _ _⟩

theorem beg_index (c : Int) (h0 : 0 ≤ c) (h1 : c < 24) (w : World) : (Instr.index 85 begV (.int .i64 c)).run Tryd.prog w = .ok (.int .i64 (rd begT c)) w := by
  obtain ⟨n, rfl⟩ := Int.eq_ofNat_of_zero_le h0
  have h2 : n < 24 := by omega
  exact match n, h2 with
  | 0, _ => (by show _ = _; kernel_rfl)
  | 1, _ => (by show _ = _; kernel_rfl)
  | 2, _ => (by show _ = _; kernel_rfl)
  | 3, _ => (by show _ = _; kernel_rfl)
  | 4, _ => (by show _ = _; kernel_rfl)
  | 5, _ => (by show _ = _; kernel_rfl)
  | 6, _ => (by show _ = _; kernel_rfl)
  | 7, _ => (by show _ = _; kernel_rfl)
  | 8, _ => (by show _ = _; kernel_rfl)
  | 9, _ => (by show _ = _; kernel_rfl)
  | 10, _ => (by show _ = _; kernel_rfl)
  | 11, _ => (by show _ = _; kernel_rfl)
  | 12, _ => (by show _ = _; kernel_rfl)
  | 13, _ => (by show _ = _; kernel_rfl)
  | 14, _ => (by show _ = _; kernel_rfl)
  | 15, _ => (by show _ = _; kernel_rfl)
  | 16, _ => (by show _ = _; kernel_rfl)
  | 17, _ => (by show _ = _; kernel_rfl)
  | 18, _ => (by show _ = _; kernel_rfl)
  | 19, _ => (by show _ = _; kernel_rfl)
  | 20, _ => (by show _ = _; kernel_rfl)
  | 21, _ => (by show _ = _; kernel_rfl)
  | 22, _ => (by show _ = _; kernel_rfl)
  | 23, _ => (by show _ = _; kernel_rfl)

def goesF (s c : Int) : Int :=
  if s = 3 ∨ s = 4 ∨ s = 5 ∨ s = 9 ∨ s = 10 then heldF s c else if s = 0 then rd begT c
  else if s = 1 ∧ (c = 1 ∨ c = 2) then 1 else if s = 2 ∧ c = 7 then 3 else if s = 2 ∧ c = 8 then 4
  else if s = 7 ∧ (c = 3 ∨ c = 4) then 7 else if s = 8 ∧ c = 4 then 8
  else if 12 ≤ s ∧ s ≤ 18 ∧ (s - 12) % 2 = 0 ∧ c = 9 then s + 1
  else if s = 20 ∧ c = 13 then 21 else if s = 22 ∧ c = 14 then 23 else -1
def dfa_goes.f (a0 a1 : Int) : Option Int := if 0 ≤ a1 then (if a1 < 24 then some (goesF a0 a1) else none) else none

set_option maxHeartbeats 4000000 in
set_option maxRecDepth 100000 in
theorem dfa_goes.calls (a0 a1 r : Int) (w : World) (h : dfa_goes.f a0 a1 = some r) :
    Calls Tryd.prog 33 #[.int .i64 a0, .int .i64 a1] w fun e w' => e = .returned (.int .i64 r) ∧ Below w.heap.size w w' := by
  have h0 : 0 ≤ a1 := by unfold dfa_goes.f at h; split at h <;> simp_all
  have h1 : a1 < 24 := by unfold dfa_goes.f at h; rw [if_pos h0] at h; split at h <;> simp_all
  obtain rfl : goesF a0 a1 = r := by unfold dfa_goes.f at h; rw [if_pos h0, if_pos h1] at h; exact Option.some.inj h
  clear h
  have hx := beg_index a1 h0 h1
  go_enter Tryd.func33, Tryd.ntmps33
  go_wp2_with (first | (go_at_call 60; refine (held_calls _ _ _).mono ?_; rintro e w' ⟨rfl, ⟨m1, rfl⟩⟩) | (go_at_call 61; refine (begun_calls _).mono ?_; rintro e w' ⟨rfl, hb⟩))
  all_goals go_ret
  all_goals refine ⟨ret_int ?_, ?_⟩
  any_goals (first | exact Below.refl _ _ | exact (Drawn0.below ⟨⟨_, rfl⟩⟩) | (refine below_then (Drawn0.below ⟨⟨_, rfl⟩⟩) ?_ hb; simp; done))
  all_goals clear hx
  all_goals try simp only [beq_iff_eq, beq_eq_false_iff_ne, ne_eq, heldB, decide_eq_true_eq, decide_eq_false_iff_not] at *
  all_goals (unfold goesF; (repeat first | rfl | rw [if_neg (by omega)] | rw [if_pos (by omega)]) <;> omega)
end Go.Proofs.YtdnkjfcndjmdbaaDoor.G
