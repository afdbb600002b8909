/- The statement's own 'character', walked: one character, or one byte of none. -/
import Derived.Test.YtdnkjfcndjmdbaaDoorGa
import Derived.Lib.RuneCount
import Derived.Laws.RangeString
import Derived.Laws.RangeAny
namespace Go.Proofs.YtdnkjfcndjmdbaaDoor.G
open Go.RowKit Go.Proofs.YtdnkjfcndjmdbaaDoorW.PrintWords Go.Proofs.YtdnkjfcndjmdbaaDoorW.PrintLast Go.Proofs.YtdnkjfcndjmdbaaDoorW.PrintMore

theorem ret_bool' {a b : Bool} (h : a = b) : Ending.returned (.bool a) = .returned (.bool b) := by rw [h]
def glossatorlaw11_character.f (a0 : ByteArray) : Option Bool := if a0.size ≤ 4611686018427387000 then some (Lib.runeCount a0 == 1) else none
set_option maxHeartbeats 4000000 in
set_option maxRecDepth 100000 in
theorem glossatorlaw11_character.calls (a0 : ByteArray) (r : Bool) (w : World) (h : glossatorlaw11_character.f a0 = some r) :
    Calls Tryd.prog 48 #[.string a0] w fun e w' => e = .returned (.bool r) ∧ Below w.heap.size w w' := by
  have hs : a0.size ≤ 4611686018427387000 := by unfold glossatorlaw11_character.f at h; split at h <;> simp_all
  obtain rfl : (Lib.runeCount a0 == 1) = r := by unfold glossatorlaw11_character.f at h; rw [if_pos hs] at h; exact Option.some.inj h
  clear h
  go_enter Tryd.func48, Tryd.ntmps48
  go_wp2
  go_loopw [3] (fun n w' => ∃ (pos b acc : Nat), w' = w.iter a0 pos ∧ n = .int .i64 acc ∧ Aside0 (acc + Lib.runeCountFrom a0 b pos = Lib.runeCount a0) ∧ Aside0 (a0.size ≤ pos + b) ∧ acc ≤ pos) (fun _ w' => a0.size - w'.iterPos w.heap.size)
  case atStart => exact ⟨0, a0.size, 0, rfl, rfl, ⟨by simp [Lib.runeCount]⟩, ⟨by omega⟩, Nat.le_refl _⟩
  case round =>
    obtain ⟨pos, b, acc, rfl, rfl, hc, hb, ha⟩ := hrel
    by_cases hp : pos < a0.size
    · have hnx : ∀ ty, (Instr.next (.pointer (some ⟨w.heap.size, 0, none⟩)) true ty).run Tryd.prog (w.iter a0 pos) = _ := fun ty => run_next_any w a0 pos ty hp
      have hwd := Lib.decode_width_pos a0 pos hp
      go_wp2
      go_roundw
      case rel =>
        cases b with
        | zero => have := hb.out; omega
        | succ b =>
          refine ⟨pos + (Utf8.decode a0 pos).2, b, acc + 1, rfl, by go_num, ⟨?_⟩, ⟨by have := hb.out; omega⟩, by omega⟩
          rw [← hc.out]
          simp [Lib.runeCountFrom, hp]
          omega
      case measure =>
        simp
        omega
    · have hnx : ∀ ty, (Instr.next (.pointer (some ⟨w.heap.size, 0, none⟩)) true ty).run Tryd.prog (w.iter a0 pos) = _ := fun ty => run_next_end w a0 pos ty hp
      go_wp2
      go_ret
      have hc := hc.out
      rw [Lib.runeCountFrom_end a0 b pos hp, Nat.add_zero] at hc
      refine ⟨ret_bool' ?_, (Below.refl _ _).alloc (Nat.le_refl _) _⟩
      rw [← hc]
      rw [Bool.eq_iff_iff, beq_iff_eq, beq_iff_eq]; omega
end Go.Proofs.YtdnkjfcndjmdbaaDoor.G
