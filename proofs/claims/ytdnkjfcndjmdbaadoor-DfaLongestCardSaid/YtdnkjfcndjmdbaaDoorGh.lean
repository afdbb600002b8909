/- The statements' own 'awake' of layer 11, walked: the chapter's examples are met. -/
import Derived.Test.YtdnkjfcndjmdbaaDoorGf
namespace Go.Proofs.YtdnkjfcndjmdbaaDoor.G
open Go.RowKit Go.Proofs.YtdnkjfcndjmdbaaDoorW.PrintWords Go.Proofs.YtdnkjfcndjmdbaaDoorW.PrintLast Go.Proofs.YtdnkjfcndjmdbaaDoorW.PrintMore

def awT : List ByteArray := [⟨#[108, 101, 116, 32, 120]⟩, ⟨#[108, 101, 116, 115]⟩, ⟨#[47, 42, 32, 97, 32, 42, 47, 98]⟩, ⟨#[47, 42, 32, 97, 32, 42]⟩, ⟨#[34, 97, 92, 34, 98, 34, 99]⟩, ⟨#[34, 97]⟩, ⟨#[61, 61]⟩, ⟨#[38]⟩, ⟨#[35]⟩, ⟨#[255, 97]⟩, ⟨#[49, 50, 97]⟩]
def awK : List Int := [10, 6, 3, 4, 8, 9, 27, 5, 5, 5, 7]
def awW : List Int := [3, 4, 7, 6, 6, 2, 2, 1, 1, 1, 2]
def awL : List Int := [1, 1, 0, 1, 0, 1, 0, 1, 0, 2, 1]
theorem aw_scan : ∀ k : Nat, k < 11 → dfa_Scan.f (awT.getD k ByteArray.empty) 0 = some (awK.getD k 0, awW.getD k 0, awL.getD k 0, true) := by decide +kernel
def awC : Array Value := (awT.map fun x => Value.string x).toArray
def awD : Array Value := #[.int .u8 10, .int .i64 3, .int .i64 1, .int .u8 6, .int .i64 4, .int .i64 1, .int .u8 3, .int .i64 7, .int .i64 0, .int .u8 4, .int .i64 6, .int .i64 1, .int .u8 8, .int .i64 6, .int .i64 0, .int .u8 9, .int .i64 2, .int .i64 1, .int .u8 27, .int .i64 2, .int .i64 0, .int .u8 5, .int .i64 1, .int .i64 1, .int .u8 5, .int .i64 1, .int .i64 0, .int .u8 5, .int .i64 1, .int .i64 2, .int .u8 7, .int .i64 2, .int .i64 1]
theorem awC_at : ∀ k : Nat, k < 11 → awC[k]? = some (.string (awT.getD k ByteArray.empty)) := by
  intro k hk
  match k, hk with
  | 0, _ | 1, _ | 2, _ | 3, _ | 4, _ | 5, _ | 6, _ | 7, _ | 8, _ | 9, _ | 10, _ => rfl
theorem awD_at : ∀ k : Nat, k < 11 → awD[k * 3]? = some (.int .u8 (awK.getD k 0)) ∧ awD[k * 3 + 1]? = some (.int .i64 (awW.getD k 0)) ∧ awD[k * 3 + 2]? = some (.int .i64 (awL.getD k 0)) := by
  intro k hk
  match k, hk with
  | 0, _ | 1, _ | 2, _ | 3, _ | 4, _ | 5, _ | 6, _ | 7, _ | 8, _ | 9, _ | 10, _ => exact ⟨rfl, rfl, rfl⟩

def glossatorlaw11_awake.f : Option Bool := some true
set_option maxHeartbeats 4000000 in
set_option maxRecDepth 100000 in
theorem glossatorlaw11_awake.calls (r : Bool) (w : World) (h : glossatorlaw11_awake.f = some r) (hT : Tabs w) :
    Calls Tryd.prog 18 #[] w fun e w' => e = .returned (.bool r) ∧ Below w.heap.size w w' := by
  obtain rfl := Option.some.inj h
  clear h
  have HT := Aside0.mk hT
  clear hT
  go_enter Tryd.func18, Tryd.ntmps18
  go_wp2
  have HB0 := Aside0.mk (((Below.refl w.heap.size w).alloc (Nat.le_refl _) (Obj.cells #[Value.string ⟨#[108, 101, 116, 32, 120]⟩, Value.string ⟨#[108, 101, 116, 115]⟩, Value.string ⟨#[47, 42, 32, 97, 32, 42, 47, 98]⟩, Value.string ⟨#[47, 42, 32, 97, 32, 42]⟩, Value.string ⟨#[34, 97, 92, 34, 98, 34, 99]⟩, Value.string ⟨#[34, 97]⟩, Value.string ⟨#[61, 61]⟩, Value.string ⟨#[38]⟩, Value.string ⟨#[35]⟩, Value.string ⟨#[255, 97]⟩, Value.string ⟨#[49, 50, 97]⟩] 9)).alloc (by simp) (Obj.cells #[Value.int .u8 10, Value.int .i64 3, Value.int .i64 1, Value.int .u8 6, Value.int .i64 4, Value.int .i64 1, Value.int .u8 3, Value.int .i64 7, Value.int .i64 0, Value.int .u8 4, Value.int .i64 6, Value.int .i64 1, Value.int .u8 8, Value.int .i64 6, Value.int .i64 0, Value.int .u8 9, Value.int .i64 2, Value.int .i64 1, Value.int .u8 27, Value.int .i64 2, Value.int .i64 0, Value.int .u8 5, Value.int .i64 1, Value.int .i64 1, Value.int .u8 5, Value.int .i64 1, Value.int .i64 0, Value.int .u8 5, Value.int .i64 1, Value.int .i64 2, Value.int .u8 7, Value.int .i64 2, Value.int .i64 1] 23))
  have H10 := Aside0.mk (blk_alloc (blk_new w (Obj.cells #[Value.string ⟨#[108, 101, 116, 32, 120]⟩, Value.string ⟨#[108, 101, 116, 115]⟩, Value.string ⟨#[47, 42, 32, 97, 32, 42, 47, 98]⟩, Value.string ⟨#[47, 42, 32, 97, 32, 42]⟩, Value.string ⟨#[34, 97, 92, 34, 98, 34, 99]⟩, Value.string ⟨#[34, 97]⟩, Value.string ⟨#[61, 61]⟩, Value.string ⟨#[38]⟩, Value.string ⟨#[35]⟩, Value.string ⟨#[255, 97]⟩, Value.string ⟨#[49, 50, 97]⟩] 9)) (Obj.cells #[Value.int .u8 10, Value.int .i64 3, Value.int .i64 1, Value.int .u8 6, Value.int .i64 4, Value.int .i64 1, Value.int .u8 3, Value.int .i64 7, Value.int .i64 0, Value.int .u8 4, Value.int .i64 6, Value.int .i64 1, Value.int .u8 8, Value.int .i64 6, Value.int .i64 0, Value.int .u8 9, Value.int .i64 2, Value.int .i64 1, Value.int .u8 27, Value.int .i64 2, Value.int .i64 0, Value.int .u8 5, Value.int .i64 1, Value.int .i64 1, Value.int .u8 5, Value.int .i64 1, Value.int .i64 0, Value.int .u8 5, Value.int .i64 1, Value.int .i64 2, Value.int .u8 7, Value.int .i64 2, Value.int .i64 1] 23))
  have H20 : Aside0 (((w.alloc (Obj.cells #[Value.string ⟨#[108, 101, 116, 32, 120]⟩, Value.string ⟨#[108, 101, 116, 115]⟩, Value.string ⟨#[47, 42, 32, 97, 32, 42, 47, 98]⟩, Value.string ⟨#[47, 42, 32, 97, 32, 42]⟩, Value.string ⟨#[34, 97, 92, 34, 98, 34, 99]⟩, Value.string ⟨#[34, 97]⟩, Value.string ⟨#[61, 61]⟩, Value.string ⟨#[38]⟩, Value.string ⟨#[35]⟩, Value.string ⟨#[255, 97]⟩, Value.string ⟨#[49, 50, 97]⟩] 9)).alloc (Obj.cells #[Value.int .u8 10, Value.int .i64 3, Value.int .i64 1, Value.int .u8 6, Value.int .i64 4, Value.int .i64 1, Value.int .u8 3, Value.int .i64 7, Value.int .i64 0, Value.int .u8 4, Value.int .i64 6, Value.int .i64 1, Value.int .u8 8, Value.int .i64 6, Value.int .i64 0, Value.int .u8 9, Value.int .i64 2, Value.int .i64 1, Value.int .u8 27, Value.int .i64 2, Value.int .i64 0, Value.int .u8 5, Value.int .i64 1, Value.int .i64 1, Value.int .u8 5, Value.int .i64 1, Value.int .i64 0, Value.int .u8 5, Value.int .i64 1, Value.int .i64 2, Value.int .u8 7, Value.int .i64 2, Value.int .i64 1] 23)).heap[w.heap.size + 1]? = some (Obj.cells #[Value.int .u8 10, Value.int .i64 3, Value.int .i64 1, Value.int .u8 6, Value.int .i64 4, Value.int .i64 1, Value.int .u8 3, Value.int .i64 7, Value.int .i64 0, Value.int .u8 4, Value.int .i64 6, Value.int .i64 1, Value.int .u8 8, Value.int .i64 6, Value.int .i64 0, Value.int .u8 9, Value.int .i64 2, Value.int .i64 1, Value.int .u8 27, Value.int .i64 2, Value.int .i64 0, Value.int .u8 5, Value.int .i64 1, Value.int .i64 1, Value.int .u8 5, Value.int .i64 1, Value.int .i64 0, Value.int .u8 5, Value.int .i64 1, Value.int .i64 2, Value.int .u8 7, Value.int .i64 2, Value.int .i64 1] 23)) := ⟨by have h := blk_new (w.alloc (Obj.cells #[Value.string ⟨#[108, 101, 116, 32, 120]⟩, Value.string ⟨#[108, 101, 116, 115]⟩, Value.string ⟨#[47, 42, 32, 97, 32, 42, 47, 98]⟩, Value.string ⟨#[47, 42, 32, 97, 32, 42]⟩, Value.string ⟨#[34, 97, 92, 34, 98, 34, 99]⟩, Value.string ⟨#[34, 97]⟩, Value.string ⟨#[61, 61]⟩, Value.string ⟨#[38]⟩, Value.string ⟨#[35]⟩, Value.string ⟨#[255, 97]⟩, Value.string ⟨#[49, 50, 97]⟩] 9)) (Obj.cells #[Value.int .u8 10, Value.int .i64 3, Value.int .i64 1, Value.int .u8 6, Value.int .i64 4, Value.int .i64 1, Value.int .u8 3, Value.int .i64 7, Value.int .i64 0, Value.int .u8 4, Value.int .i64 6, Value.int .i64 1, Value.int .u8 8, Value.int .i64 6, Value.int .i64 0, Value.int .u8 9, Value.int .i64 2, Value.int .i64 1, Value.int .u8 27, Value.int .i64 2, Value.int .i64 0, Value.int .u8 5, Value.int .i64 1, Value.int .i64 1, Value.int .u8 5, Value.int .i64 1, Value.int .i64 0, Value.int .u8 5, Value.int .i64 1, Value.int .i64 2, Value.int .u8 7, Value.int .i64 2, Value.int .i64 1] 23); simpa using h⟩
  generalize (w.alloc (Obj.cells #[Value.string ⟨#[108, 101, 116, 32, 120]⟩, Value.string ⟨#[108, 101, 116, 115]⟩, Value.string ⟨#[47, 42, 32, 97, 32, 42, 47, 98]⟩, Value.string ⟨#[47, 42, 32, 97, 32, 42]⟩, Value.string ⟨#[34, 97, 92, 34, 98, 34, 99]⟩, Value.string ⟨#[34, 97]⟩, Value.string ⟨#[61, 61]⟩, Value.string ⟨#[38]⟩, Value.string ⟨#[35]⟩, Value.string ⟨#[255, 97]⟩, Value.string ⟨#[49, 50, 97]⟩] 9)).alloc (Obj.cells #[Value.int .u8 10, Value.int .i64 3, Value.int .i64 1, Value.int .u8 6, Value.int .i64 4, Value.int .i64 1, Value.int .u8 3, Value.int .i64 7, Value.int .i64 0, Value.int .u8 4, Value.int .i64 6, Value.int .i64 1, Value.int .u8 8, Value.int .i64 6, Value.int .i64 0, Value.int .u8 9, Value.int .i64 2, Value.int .i64 1, Value.int .u8 27, Value.int .i64 2, Value.int .i64 0, Value.int .u8 5, Value.int .i64 1, Value.int .i64 1, Value.int .u8 5, Value.int .i64 1, Value.int .i64 0, Value.int .u8 5, Value.int .i64 1, Value.int .i64 2, Value.int .u8 7, Value.int .i64 2, Value.int .i64 1] 23) = W1 at HB0 H10 H20 ⊢
  go_loopw [3] (fun i wr => ∃ k : Nat, k ≤ 11 ∧ i = .int .i64 k ∧ Aside0 (wr.heap[w.heap.size]? = some (.cells awC 9 (0, 0))) ∧ Aside0 (wr.heap[w.heap.size + 1]? = some (.cells awD 23 (0, 0))) ∧ Aside0 (Below w.heap.size w wr)) (fun i _ => 11 - (intOf i).toNat)
  case atStart => exact ⟨0, by omega, rfl, H10, H20, HB0⟩
  case round =>
    obtain ⟨k, hk, rfl, H1, H2, HB⟩ := hrel
    by_cases hlt : k < 11
    · have hc := (blk_cell H1.out k).trans (awC_at k hlt)
      have HX : Aside0 (Tabs wr) := ⟨tabs_below HT.out HB.out⟩
      have HS := Aside0.mk (aw_scan k hlt)
      have HD := Aside0.mk (awD_at k hlt)
      generalize awT.getD k ByteArray.empty = tk at hc HS
      generalize awK.getD k 0 = kk at HS HD
      generalize awW.getD k 0 = ww at HS HD
      generalize awL.getD k 0 = ll at HS HD
      go_upto_region 7 with (go_at_call 14; refine (dfa_Scan.calls tk 0 kk ww ll true _ HS.out (by exact HX.out)).mono ?_; rintro e w1 ⟨rfl, hb1⟩; have H11 := Aside0.mk (blk_below H1.out hb1); have H21 := Aside0.mk (blk_below H2.out hb1); have HB1 := Aside0.mk (below_then HB.out HB.out.size hb1); clear hb1)
      have HN := Aside0.mk (blk_new w1 (Obj.cells #[Value.int .u8 kk, Value.int .i64 ww, Value.int .i64 ll] 23))
      have H12 := Aside0.mk (blk_alloc H11.out (Obj.cells #[Value.int .u8 kk, Value.int .i64 ww, Value.int .i64 ll] 23))
      have H22 := Aside0.mk (blk_alloc H21.out (Obj.cells #[Value.int .u8 kk, Value.int .i64 ww, Value.int .i64 ll] 23))
      have HB2 := Aside0.mk (HB1.out.alloc HB1.out.size (Obj.cells #[Value.int .u8 kk, Value.int .i64 ww, Value.int .i64 ll] 23))
      generalize w1.alloc (Obj.cells #[Value.int .u8 kk, Value.int .i64 ww, Value.int .i64 ll] 23) = W2 at HN H12 H22 HB2 ⊢
      generalize w1.heap.size = g at HN ⊢
      clear hc HX HS
      have x0 := (blk_cell HN.out 0).trans rfl
      have x1 := (blk_cell HN.out 1).trans rfl
      have x2 := (blk_cell HN.out 2).trans rfl
      have y0 := (blk_cell H22.out (k * 3)).trans HD.out.1
      have y1 := (blk_cell H22.out (k * 3 + 1)).trans HD.out.2.1
      have y2 := (blk_cell H22.out (k * 3 + 2)).trans HD.out.2.2
      go_quiet (fail)
      go_wp2
      go_roundw
      case rel => exact ⟨k + 1, by omega, by go_num, H12, H22, ⟨pw_below_drewN HB2.out _⟩⟩
      case measure => simp [intOf]; omega
    · obtain rfl : k = 11 := by omega
      have HX : Aside0 (Tabs wr) := ⟨tabs_below HT.out HB.out⟩
      go_wp2_with fail
      refine (dfa_Class.calls 34 5 _ (by decide +kernel)).mono ?_
      rintro e w2 ⟨rfl, hb2⟩
      have HB2 := Aside0.mk (below_then HB.out HB.out.size hb2.below)
      clear hb2 HX
      have HX : Aside0 (Tabs w2) := ⟨tabs_below HT.out HB2.out⟩
      go_wp2_with fail
      refine (dfa_Word.calls ⟨#[119, 104, 105, 108, 101]⟩ 14 _ (by decide +kernel) HX.out).mono ?_
      rintro e w3 ⟨rfl, hb3⟩
      have HB3 := Aside0.mk (below_then HB2.out HB2.out.size hb3)
      clear hb3 HX
      have HX : Aside0 (Tabs w3) := ⟨tabs_below HT.out HB3.out⟩
      go_wp2_with fail
      refine (dfa_Word.calls ⟨#[57, 97]⟩ 0 _ (by decide +kernel) HX.out).mono ?_
      rintro e w4 ⟨rfl, hb4⟩
      have HB4 := Aside0.mk (below_then HB3.out HB3.out.size hb4)
      clear hb4 HX
      go_wp2
      go_ret
      exact ⟨rfl, HB4.out⟩
end Go.Proofs.YtdnkjfcndjmdbaaDoor.G
