/- The scanner's inner functions, walked: Class, held, begun, goes, Kind. -/
import Derived.Test.YtdnkjfcndjmdbaaDoorShelf
import Derived.Test.YtdnkjfcndjmdbaaDoorWWords
import Derived.Test.YtdnkjfcndjmdbaaDoorWLast
import Derived.Test.YtdnkjfcndjmdbaaDoorGs
namespace Go.Proofs.YtdnkjfcndjmdbaaDoor.G
open Go.RowKit Go.Proofs.YtdnkjfcndjmdbaaDoorW.PrintWords Go.Proofs.YtdnkjfcndjmdbaaDoorW.PrintLast Go.Proofs.YtdnkjfcndjmdbaaDoorW.PrintMore

def signAt (r : Int) : Int := Lib.indexByte [34, 92, 47, 42, 61, 33, 60, 62, 38, 124, 40, 41, 123, 125, 44, 59, 43, 45, 37] (UInt8.ofNat r.toNat)
def cls (r : Int) : Int :=
  if r = 32 ∨ r = 9 then 1 else if r = 10 ∨ r = 13 then 2
  else if r = 95 ∨ (97 ≤ r ∧ r ≤ 122) ∨ (65 ≤ r ∧ r ≤ 90) then 3
  else if 48 ≤ r ∧ r ≤ 57 then 4
  else if r < 0 ∨ 126 < r then 0
  else if 0 ≤ signAt r then wrap64 (5 + signAt r) else 0
theorem ret_int {k : IntKind} {a b : Int} (h : a = b) : Ending.returned (.int k a) = .returned (.int k b) := by rw [h]
def dfa_Class.f (a0 : Int) : Option Int := some (cls a0)

set_option maxHeartbeats 1000000 in
set_option maxRecDepth 100000 in
theorem dfa_Class.calls (a0 : Int) (r : Int) (w : World) (h : dfa_Class.f a0 = some r) :
    Calls Tryd.prog 32 #[.int .i32 a0] w fun e w' => e = .returned (.int .i64 r) ∧ Drawn0 w w' := by
  obtain rfl := Option.some.inj h
  clear h
  go_enter Tryd.func32, Tryd.ntmps32
  go_wp2_with (go_at_call 59; refine (Tryd.strings_IndexByte _ _ _).mono ?_; rintro e w' ⟨rfl, rfl⟩)
  all_goals go_ret
  all_goals refine ⟨ret_int ?_, Drawn0.refl _⟩
  all_goals unfold cls signAt
  all_goals try simp only [beq_iff_eq, beq_eq_false_iff_ne, ne_eq] at *
  all_goals ((repeat' split) <;> omega)
end Go.Proofs.YtdnkjfcndjmdbaaDoor.G
