/- The states' kinds, walked: kinds, and Kind where the seat has it. -/
import Derived.Test.YtdnkjfcndjmdbaaDoorGb
namespace Go.Proofs.YtdnkjfcndjmdbaaDoor.G
open Go.RowKit Go.Proofs.YtdnkjfcndjmdbaaDoorW.PrintWords Go.Proofs.YtdnkjfcndjmdbaaDoorW.PrintLast Go.Proofs.YtdnkjfcndjmdbaaDoorW.PrintMore

def kinT : List Int := [0, 1, 36, 2, 4, 4, 3, 6, 7, 9, 9, 8, 26, 27, 38, 28, 29, 30, 31, 32, 5, 39, 5, 40, 20, 21, 22, 23, 24, 25, 33, 34, 35, 37, 5]
def kinA : Array Value := #[.int .u8 0, .int .u8 1, .int .u8 36, .int .u8 2, .int .u8 4, .int .u8 4, .int .u8 3, .int .u8 6, .int .u8 7, .int .u8 9, .int .u8 9, .int .u8 8, .int .u8 26, .int .u8 27, .int .u8 38, .int .u8 28, .int .u8 29, .int .u8 30, .int .u8 31, .int .u8 32, .int .u8 5, .int .u8 39, .int .u8 5, .int .u8 40, .int .u8 20, .int .u8 21, .int .u8 22, .int .u8 23, .int .u8 24, .int .u8 25, .int .u8 33, .int .u8 34, .int .u8 35, .int .u8 37, .int .u8 5]
def kinV : Value := .agg kinA
theorem kinds_build (w : World) : (Instr.build 62 #[(1, .int .u8 1), (2, .int .u8 36), (3, .int .u8 2), (4, .int .u8 4), (5, .int .u8 4), (6, .int .u8 3), (7, .int .u8 6), (8, .int .u8 7), (9, .int .u8 9), (10, .int .u8 9), (11, .int .u8 8), (12, .int .u8 26), (13, .int .u8 27), (14, .int .u8 38), (15, .int .u8 28), (16, .int .u8 29), (17, .int .u8 30), (18, .int .u8 31), (19, .int .u8 32), (20, .int .u8 5), (21, .int .u8 39), (22, .int .u8 5), (23, .int .u8 40), (24, .int .u8 20), (25, .int .u8 21), (26, .int .u8 22), (27, .int .u8 23), (28, .int .u8 24), (29, .int .u8 25), (30, .int .u8 33), (31, .int .u8 34), (32, .int .u8 35), (33, .int .u8 37), (34, .int .u8 5)]).run Tryd.prog w = .ok kinV w := run_build w 62 _ _ (by kernel_rfl)
set_option maxRecDepth 100000 in
theorem kinds_calls (w : World) :
    Calls Tryd.prog 34 #[] w fun e w' => e = .returned kinV ∧ Below w.heap.size w w' := by
  have hb := kinds_build
  go_enter Tryd.func34, Tryd.ntmps34
  go_wp2_with (refine wpList_store_row rfl 62 _ _ rfl w.heap.size kinA rfl rfl _ _ (heap_alloc_new w _) (by kernel_rfl) (by rfl) (by kernel_rfl) ?_)
  exact bodyPost_ret (results_cell_row rfl _ _ w.heap.size _ kinA _ _ rfl (setRow_heap _ _ _ _ _ _ (heap_alloc_new w _)) Tryd.underlying62 rfl (by kernel_rfl)) rfl ⟨rfl, below_new_row w _ _⟩

theorem kin_index (c : Int) (h0 : 0 ≤ c) (h1 : c < 35) (w : World) : (Instr.index 62 kinV (.int .i64 c)).run Tryd.prog w = .ok (.int .u8 (rd kinT c)) w := by
  obtain ⟨n, rfl⟩ := Int.eq_ofNat_of_zero_le h0
  have h2 : n < 35 := by omega
  exact match n, h2 with
  | 0, _ => (by show _ = _; kernel_rfl)
  | 1, _ => (by show _ = _; kernel_rfl)
  | 2, _ => (by show _ = _; kernel_rfl)
  | 3, _ => (by show _ = _; kernel_rfl)
  | 4, _ => (by show _ = _; kernel_rfl)
  | 5, _ => (by show _ = _; kernel_rfl)
  | 6, _ => (by show _ = _; kernel_rfl)
  | 7, _ => (by show _ = _; kernel_rfl)
  | 8, _ => (by show _ = _; kernel_rfl)
  | 9, _ => (by show _ = _; kernel_rfl)
  | 10, _ => (by show _ = _; kernel_rfl)
  | 11, _ => (by show _ = _; kernel_rfl)
  | 12, _ => (by show _ = _; kernel_rfl)
  | 13, _ => (by show _ = _; kernel_rfl)
  | 14, _ => (by show _ = _; kernel_rfl)
  | 15, _ => (by show _ = _; kernel_rfl)
  | 16, _ => (by show _ = _; kernel_rfl)
  | 17, _ => (by show _ = _; kernel_rfl)
  | 18, _ => (by show _ = _; kernel_rfl)
  | 19, _ => (by show _ = _; kernel_rfl)
  | 20, _ => (by show _ = _; kernel_rfl)
  | 21, _ => (by show _ = _; kernel_rfl)
  | 22, _ => (by show _ = _; kernel_rfl)
  | 23, _ => (by show _ = _; kernel_rfl)
  | 24, _ => (by show _ = _; kernel_rfl)
  | 25, _ => (by show _ = _; kernel_rfl)
  | 26, _ => (by show _ = _; kernel_rfl)
  | 27, _ => (by show _ = _; kernel_rfl)
  | 28, _ => (by show _ = _; kernel_rfl)
  | 29, _ => (by show _ = _; kernel_rfl)
  | 30, _ => (by show _ = _; kernel_rfl)
  | 31, _ => (by show _ = _; kernel_rfl)
  | 32, _ => (by show _ = _; kernel_rfl)
  | 33, _ => (by show _ = _; kernel_rfl)
  | 34, _ => (by show _ = _; kernel_rfl)

end Go.Proofs.YtdnkjfcndjmdbaaDoor.G
