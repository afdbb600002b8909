/- The scanner's looks and Scan, walked. -/
import Derived.Test.YtdnkjfcndjmdbaaDoorGb
import Derived.Test.YtdnkjfcndjmdbaaDoorGc
import Derived.Test.YtdnkjfcndjmdbaaDoorGe
import Derived.Test.YtdnkjfcndjmdbaaDoorPd
namespace Go.Proofs.YtdnkjfcndjmdbaaDoor.G
open Go.RowKit Go.Proofs.YtdnkjfcndjmdbaaDoorW.PrintWords Go.Proofs.YtdnkjfcndjmdbaaDoorW.PrintLast Go.Proofs.YtdnkjfcndjmdbaaDoorW.PrintMore

theorem cls_range (r : Int) : 0 ≤ cls r ∧ cls r < 24 := by
  unfold cls
  have h1 : signAt r < 19 := by
    unfold signAt
    have : ∀ (l : List UInt8) (c : UInt8), Lib.indexByte l c < l.length ∨ Lib.indexByte l c = -1 := by
      intro l c
      induction l with
      | nil => exact .inr rfl
      | cons b l ih => unfold Lib.indexByte; split <;> (try split) <;> simp_all <;> omega
    rcases this [34, 92, 47, 42, 61, 33, 60, 62, 38, 124, 40, 41, 123, 125, 44, 59, 43, 45, 37] (UInt8.ofNat r.toNat) with h | h
    · simpa using h
    · omega
  unfold wrap64
  (repeat' split) <;> omega
theorem goes_range : ∀ s : Nat, s < 35 → ∀ c : Nat, c < 24 → -1 ≤ goesF (s : Int) c ∧ goesF (s : Int) c < 35 := by decide +kernel

theorem ret_bool {a b : Bool} (h : a = b) : Ending.returned (.bool a) = .returned (.bool b) := by rw [h]
def looksB (s : Int) : Bool := decide (∃ c : Nat, c < 24 ∧ 0 ≤ goesF s c)
set_option maxHeartbeats 1000000 in
set_option maxRecDepth 100000 in
theorem looks_calls (a0 : Int) (w : World) :
    Calls Tryd.prog 35 #[.int .i64 a0] w fun e w' => e = .returned (.bool (looksB a0)) ∧ Below w.heap.size w w' := by
  go_enter Tryd.func35, Tryd.ntmps35
  go_wp2
  go_loopw [4] (fun i wr => ∃ k : Nat, k ≤ 24 ∧ i = .int .i64 k ∧ Aside0 (∀ j : Nat, j < k → goesF a0 j < 0) ∧ Aside0 (Below w.heap.size w wr)) (fun i _ => 24 - (intOf i).toNat)
  case atStart => exact ⟨0, by omega, rfl, ⟨fun j hj => by omega⟩, ⟨Below.refl _ _⟩⟩
  case round =>
    obtain ⟨k, hk, rfl, HA, HB⟩ := hrel
    by_cases hlt : k < 24
    · go_wp2_with fail
      refine (dfa_goes.calls a0 k (goesF a0 k) _ (by unfold dfa_goes.f; rw [if_pos (by omega), if_pos (by omega)])).mono ?_
      rintro e w1 ⟨rfl, hb⟩
      have HB1 := Aside0.mk (below_then HB.out HB.out.size hb)
      clear hb
      by_cases h0 : 0 ≤ goesF a0 k
      · have HL : Aside0 (looksB a0 = true) := ⟨decide_eq_true ⟨k, hlt, h0⟩⟩
        generalize goesF a0 (k : Int) = x at h0 ⊢
        go_wp2
        go_ret
        exact ⟨ret_bool HL.out.symm, HB1.out⟩
      · have HC : Aside0 (∀ j : Nat, j < k + 1 → goesF a0 j < 0) := ⟨fun j hj => if e : j = k then by subst e; omega else HA.out j (by omega)⟩
        have h1 : decide (0 ≤ goesF a0 k) = false := decide_eq_false h0
        clear h0
        generalize goesF a0 (k : Int) = x at h1 ⊢
        go_wp2
        go_roundw
        case rel => exact ⟨k + 1, by omega, by go_num, HC, HB1⟩
        case measure => simp [intOf]; omega
    · obtain rfl : k = 24 := by omega
      have HL : Aside0 (looksB a0 = false) := ⟨decide_eq_false (fun ⟨c, hc, h⟩ => by have := HA.out c hc; omega)⟩
      go_wp2
      go_ret
      exact ⟨ret_bool HL.out.symm, HB.out⟩

/-- One token: the state, the place behind it, and whether it is a byte of no character. -/
def scanL (s : ByteArray) : Nat → Int → Nat → Bool → Int × Nat × Bool
  | 0, st, t, wr => (st, t, wr)
  | n + 1, st, t, wr =>
    if t < s.size then
      if goesF st (cls (Utf8.decode s t).1) < 0 then (st, t, wr)
      else scanL s n (goesF st (cls (Utf8.decode s t).1)) (t + (Utf8.decode s t).2)
        (decide (st = 0 ∧ ((Utf8.decode s t).1 : Int) = 65533 ∧ ((Utf8.decode s t).2 : Int) = 1))
    else (st, t, wr)
def scanE (s : ByteArray) (t : Nat) : Int × Nat × Bool := scanL s (s.size + 1) 0 t false
def kindE (s : ByteArray) (t : Nat) : Int := if (scanE s t).1 = 7 then wordF (s.extract t (scanE s t).2.1) else rd kinT (scanE s t).1
def lookE (s : ByteArray) (t : Nat) : Int := if looksB (scanE s t).1 = true then 1 else if (scanE s t).2.2 = true then min 3 ((s.size : Int) - (scanE s t).2.1 + 1) else 0
def dfa_Scan.f (a0 : ByteArray) (a1 : Int) : Option (Int × Int × Int × Bool) :=
  if a0.size ≤ 4611686018427387000 then
    if 0 ≤ a1 then if a1 < a0.size then some (kindE a0 a1.toNat, ((scanE a0 a1.toNat).2.1 : Int) - a1, lookE a0 a1.toNat, true) else some (0, 0, 0, false)
    else some (0, 0, 0, false)
  else none

theorem scanL_le (s : ByteArray) : ∀ n st t wr, 0 ≤ st → st < 35 → t ≤ s.size → t ≤ (scanL s n st t wr).2.1 ∧ (scanL s n st t wr).2.1 ≤ s.size ∧ 0 ≤ (scanL s n st t wr).1 ∧ (scanL s n st t wr).1 < 35 := by
  intro n
  induction n with
  | zero => intro st t wr h0 h1 h2; exact ⟨Nat.le_refl _, h2, h0, h1⟩
  | succ n ih =>
    intro st t wr h0 h1 h2
    unfold scanL
    by_cases ht : t < s.size
    · rw [if_pos ht]
      by_cases hg : goesF st (cls (Utf8.decode s t).1) < 0
      · rw [if_pos hg]; exact ⟨Nat.le_refl _, h2, h0, h1⟩
      · rw [if_neg hg]
        obtain ⟨a, rfl⟩ := Int.eq_ofNat_of_zero_le h0
        have hc := cls_range (Utf8.decode s t).1
        obtain ⟨c, hcc⟩ := Int.eq_ofNat_of_zero_le hc.1
        rw [hcc] at hg ⊢
        have hr := goes_range a (by omega) c (by omega)
        have := ih (goesF a c) (t + (Utf8.decode s t).2) (decide ((a : Int) = 0 ∧ ((Utf8.decode s t).1 : Int) = 65533 ∧ ((Utf8.decode s t).2 : Int) = 1)) (by omega) hr.2 (P.dec_le s t ht)
        exact ⟨by have := P.dec_pos s t; omega, this.2⟩
    · rw [if_neg ht]; exact ⟨Nat.le_refl _, h2, h0, h1⟩

set_option maxHeartbeats 4000000 in
set_option maxRecDepth 100000 in
theorem scan_none (a0 : ByteArray) (a1 : Int) (w : World) (h : a1 < 0 ∨ (a0.size : Int) ≤ a1) :
    Calls Tryd.prog 14 #[.string a0, .int .i64 a1] w fun e w' => e = .returned (.tuple #[.agg #[.int .u8 0, .int .i64 0, .int .i64 0], .bool false]) ∧ Below w.heap.size w w' := by
  by_cases h0 : a1 < 0
  · go_enter Tryd.func14, Tryd.ntmps14
    go_wp2
    exact bodyPost_ret (v := .tuple #[.agg #[.int .u8 0, .int .i64 0, .int .i64 0], .bool false]) (by simp [results, Tryd.results14, go_sem]) rfl ⟨rfl, (Below.refl _ _).alloc (Nat.le_refl _) _⟩
  · have h1 : (a0.size : Int) ≤ a1 := by omega
    go_enter Tryd.func14, Tryd.ntmps14
    go_wp2
    exact bodyPost_ret (v := .tuple #[.agg #[.int .u8 0, .int .i64 0, .int .i64 0], .bool false]) (by simp [results, Tryd.results14, go_sem]) rfl ⟨rfl, (Below.refl _ _).alloc (Nat.le_refl _) _⟩

set_option maxHeartbeats 4000000 in
set_option maxRecDepth 100000 in
theorem scan_some (a0 : ByteArray) (p : Nat) (w : World) (hs : a0.size ≤ 4611686018427387000) (hp : p < a0.size) (hT : Tabs w) :
    Calls Tryd.prog 14 #[.string a0, .int .i64 p] w fun e w' => e = .returned (.tuple #[.agg #[.int .u8 (kindE a0 p), .int .i64 (((scanE a0 p).2.1 : Int) - p), .int .i64 (lookE a0 p)], .bool true]) ∧ Below w.heap.size w w' := by
  have HT := Aside0.mk hT
  clear hT
  have hq1 : decide ((p : Int) < 0) = false := decide_eq_false (by omega)
  have hq2 : decide (a0.size ≤ p) = false := decide_eq_false (by omega)
  go_enter Tryd.func14, Tryd.ntmps14
  go_upto_block 0 with fail
  have HA := Aside0.mk ((Below.refl w.heap.size w).alloc (Nat.le_refl _) (Obj.cells #[Value.int IntKind.u8 0, Value.int IntKind.i64 0, Value.int IntKind.i64 0] 23))
  have HK := Aside0.mk (heap_alloc_new w (Obj.cells #[Value.int IntKind.u8 0, Value.int IntKind.i64 0, Value.int IntKind.i64 0] 23))
  have HZ := Aside0.mk (show (w.alloc (Obj.cells #[Value.int IntKind.u8 0, Value.int IntKind.i64 0, Value.int IntKind.i64 0] 23)).heap.size = w.heap.size + 1 by simp)
  generalize w.alloc (Obj.cells #[Value.int IntKind.u8 0, Value.int IntKind.i64 0, Value.int IntKind.i64 0] 23) = W1 at HA HK HZ ⊢
  go_cut [6, 7, 8] (fun a b c wc => ∃ (st : Int) (t : Nat) (wg : Bool), a = .int .i64 st ∧ b = .int .i64 t ∧ c = .bool wg ∧ Aside0 (scanE a0 p = (st, t, wg)) ∧ Aside0 (Below W1.heap.size W1 wc))
  case first =>
    go_wp2_with fail
    go_loopg [6, 7, 8] (a0.size + 1) (fun n a b c wr => ∃ (st : Int) (t : Nat) (wg : Bool), a = .int .i64 st ∧ b = .int .i64 t ∧ c = .bool wg ∧ t ≤ a0.size ∧ Aside0 (a0.size < t + n) ∧ Aside0 (0 ≤ st ∧ st < 35) ∧ Aside0 (scanL a0 n st t wg = scanE a0 p) ∧ Aside0 (Below W1.heap.size W1 wr))
    case atStart => exact ⟨0, p, false, rfl, rfl, rfl, by omega, ⟨by omega⟩, ⟨by omega⟩, ⟨rfl⟩, ⟨Below.refl _ _⟩⟩
    case round =>
      obtain ⟨st, t, wg, rfl, rfl, rfl, ht, HN, HS, HE, HB⟩ := hrel
      cases gk with
      | zero => have := HN.out; omega
      | succ n =>
        by_cases hlt : t < a0.size
        · have HP := Aside0.mk (P.dec_pos a0 t)
          have HL := Aside0.mk (P.dec_le a0 t hlt)
          have HC := Aside0.mk (cls_range (Utf8.decode a0 t).1)
          have HG : Aside0 (-1 ≤ goesF st (cls (Utf8.decode a0 t).1) ∧ goesF st (cls (Utf8.decode a0 t).1) < 35) := ⟨by
            obtain ⟨x, rfl⟩ := Int.eq_ofNat_of_zero_le HS.out.1
            obtain ⟨y, hy⟩ := Int.eq_ofNat_of_zero_le HC.out.1
            rw [hy]
            have h1 := HS.out.2
            have h2 := HC.out.2
            exact goes_range x (by omega) y (by omega)⟩
          have HX : Aside0 (Tabs wr) := ⟨tabs_below HT.out (HA.out.trans (HB.out.mono (by have := HZ.out; omega)))⟩
          go_wp2_with fail
          refine (utf8_DecodeRuneInString.calls (a0.extract t a0.size) _ _ _ rfl HX.out).mono ?_
          rintro e w1 ⟨rfl, hb1⟩
          have HB1 := Aside0.mk (below_then HB.out HB.out.size hb1)
          clear hb1 HX
          rw [P.dec_slice a0 t hlt]
          have HR := Aside0.mk (show scanL a0 (n + 1) st t wg = _ from by unfold scanL; rw [if_pos hlt])
          generalize hd : Utf8.decode a0 t = d at HP HL HC HG HR ⊢
          obtain ⟨d1, d2⟩ := d
          clear hd
          simp only at HP HL HC HG HR ⊢
          go_wp2_with fail
          refine (dfa_Class.calls _ _ _ rfl).mono ?_
          rintro e w2 ⟨rfl, hb2⟩
          have HB2 := Aside0.mk (below_then HB1.out HB1.out.size hb2.below)
          clear hb2
          go_wp2_with fail
          refine (dfa_goes.calls st (cls d1) (goesF st (cls d1)) _ (by unfold dfa_goes.f; rw [if_pos HC.out.1, if_pos HC.out.2])).mono ?_
          rintro e w3 ⟨rfl, hb3⟩
          have HB3 := Aside0.mk (below_then HB2.out HB2.out.size hb3)
          clear hb3 HC
          generalize goesF st (cls d1) = g at HG HR ⊢
          by_cases hg : g < 0
          · have HE2 : Aside0 (scanE a0 p = (st, t, wg)) := ⟨by rw [← HE.out, HR.out, if_pos hg]⟩
            go_wp2
            go_meet
            case rel => exact ⟨st, t, wg, rfl, rfl, rfl, HE2, HB3⟩
          · have hg' : decide (g < 0) = false := decide_eq_false hg
            have HE2 : Aside0 (scanL a0 n g (t + d2) (decide (st = 0 ∧ (d1 : Int) = 65533 ∧ (d2 : Int) = 1)) = scanE a0 p) := ⟨by rw [← HE.out, HR.out, if_neg hg]⟩
            have ht2 : t + d2 ≤ a0.size := HL.out
            clear hg
            go_wp2
            all_goals go_roundg n
            all_goals first
              | (case measure => omega)
              | skip
            all_goals (case rel => refine ⟨g, t + d2, _, rfl, rfl, rfl, ht2, ⟨by have h1 := HN.out; have h2 : 1 ≤ d2 := HP.out; omega⟩, ⟨by have h1 := HG.out; have h2 := of_decide_eq_false hg'; omega⟩, ⟨Eq.trans ?_ HE2.out⟩, HB3⟩; congr 1; first | (simp_all; done) | (simp_all; exact Bool.beq_eq_decide_eq _ _))
        · have HE2 : Aside0 (scanE a0 p = (st, t, wg)) := ⟨by rw [← HE.out]; unfold scanL; rw [if_neg hlt]⟩
          go_wp2
          go_meet
          case rel => exact ⟨st, t, wg, rfl, rfl, rfl, HE2, HB⟩
  case rest =>
    obtain ⟨st, t, wg, rfl, rfl, rfl, HE, HB⟩ := hcut
    have HR := Aside0.mk (scanL_le a0 (a0.size + 1) 0 p false (by omega) (by omega) (by omega))
    have HR2 : p ≤ t ∧ t ≤ a0.size ∧ 0 ≤ st ∧ st < 35 := by have := HR.out; have e := HE.out; unfold scanE at e; rw [e] at this; exact this
    clear HR
    obtain ⟨hpt, hts, hs0, hs1⟩ := HR2
    have HX := kin_index st hs0 hs1
    have HKE : Aside0 (kindE a0 p = if st = 7 then wordF (a0.extract p t) else rd kinT st) := ⟨by unfold kindE; rw [HE.out]⟩
    have HLE : Aside0 (lookE a0 p = if looksB st = true then 1 else if wg = true then min 3 ((a0.size : Int) - t + 1) else 0) := ⟨by unfold lookE; rw [HE.out]⟩
    have HTE : Aside0 (((scanE a0 p).2.1 : Int) = t) := ⟨by rw [HE.out]⟩
    clear HE
    go_upto_if 64 with (go_at_call 34; refine (kinds_calls _).mono ?_; rintro e w1 ⟨rfl, hb1⟩; have HB1 := Aside0.mk (below_then HB.out HB.out.size hb1); clear hb1)
    have HB2 := Aside0.mk (HB1.out.alloc HB1.out.size (Obj.cells #[Value.int IntKind.u8 (rd kinT st), Value.int IntKind.i64 (↑t - ↑p), Value.int IntKind.i64 0] 23))
    have HG := Aside0.mk (blk_new w1 (Obj.cells #[Value.int IntKind.u8 (rd kinT st), Value.int IntKind.i64 (↑t - ↑p), Value.int IntKind.i64 0] 23))
    have HS := Aside0.mk HB1.out.size
    have HR := Aside0.mk (blk_below HK.out HB2.out)
    generalize w1.alloc (Obj.cells #[Value.int IntKind.u8 (rd kinT st), Value.int IntKind.i64 (↑t - ↑p), Value.int IntKind.i64 0] 23) = W2 at HB2 HG HR ⊢
    clear HB1
    generalize w1.heap.size = g at HG HS ⊢
    go_cut [70] (fun _ wc => Aside0 (Below W1.heap.size W1 wc) ∧ Aside0 (wc.heap[g]? = some (Obj.cells #[Value.int IntKind.u8 (kindE a0 p), Value.int IntKind.i64 (↑t - ↑p), Value.int IntKind.i64 0] 23)))
    case first =>
      by_cases h7 : st = 7
      · subst h7
        have HX2 : Aside0 (Tabs W2) := ⟨tabs_below HT.out (HA.out.trans (HB2.out.mono (by have := HZ.out; omega)))⟩
        go_wp2_with fail
        refine (dfa_Word.calls (a0.extract p t) _ _ (by unfold dfa_Word.f; rw [if_pos (by simp; omega)]) HX2.out).mono ?_
        rintro e w3 ⟨rfl, hb3⟩
        have HG3 := Aside0.mk (blk_below HG.out hb3)
        have HB3 := Aside0.mk (below_then HB2.out HB2.out.size hb3)
        clear hb3 HB2
        have hc := (blk_cell HG3.out 0).trans rfl
        have hf := blk_frozen HG3.out 0
        go_wp2_with fail
        go_meet
        case rel =>
          refine ⟨⟨HB3.out.setCell (by exact HS.out) _⟩, ⟨blk_put HG3.out 0 _ (by rw [HKE.out]; simp)⟩⟩
      · have h7' : (st == 7) = false := beq_eq_false_iff_ne.2 h7
        go_wp2_with fail
        go_meet
        case rel => exact ⟨HB2, ⟨by rw [HG.out, HKE.out, if_neg h7]⟩⟩
    case rest =>
      obtain ⟨HB3, HG3⟩ := hcut
      clear HB2 HG HR HX
      go_wp2_with fail
      refine (looks_calls st _).mono ?_
      rintro e w5 ⟨rfl, hb5⟩
      have HG5 := Aside0.mk (blk_below HG3.out hb5)
      have HB5 := Aside0.mk (below_then HB3.out HB3.out.size hb5)
      have HR5 := Aside0.mk (blk_below HK.out HB5.out)
      clear hb5 HG3 HB3
      have hne : ¬ g = w.heap.size := by have h1 := HS.out; have h2 := HZ.out; omega
      have hne2 : ¬ w.heap.size = g := fun h => hne h.symm
      have c0 := (blk_cell HG5.out 0).trans rfl
      have c1 := (blk_cell HG5.out 1).trans rfl
      have c2 := (blk_cell HG5.out 2).trans rfl
      have f2 := blk_frozen HG5.out 2
      have r0 := (blk_cell HR5.out 0).trans rfl
      have r1 := (blk_cell HR5.out 1).trans rfl
      have r2 := (blk_cell HR5.out 2).trans rfl
      have q0 := blk_frozen HR5.out 0
      have q1 := blk_frozen HR5.out 1
      have q2 := blk_frozen HR5.out 2
      have hB5 : Below w.heap.size w w5 := HA.out.trans (HB5.out.mono (by have := HZ.out; omega))
      have hg0 : w.heap.size ≤ g := by have h1 := HS.out; have h2 := HZ.out; omega
      cases hl : looksB st with
      | true =>
        have HLE2 : Aside0 (lookE a0 p = 1) := ⟨by rw [HLE.out, if_pos hl]⟩
        clear hl HLE
        go_wp2
        have z1 := blk_far HR5.out (p := ⟨g, 2, none⟩) (by simpa using hne2) (Value.int .i64 1)
        have z2 := blk_put z1 0 (Value.int .u8 (kindE a0 p)) (cs' := #[.int .u8 (kindE a0 p), .int .i64 0, .int .i64 0]) rfl
        have z3 := blk_put z2 1 (Value.int .i64 (↑t - ↑p)) (cs' := #[.int .u8 (kindE a0 p), .int .i64 (↑t - ↑p), .int .i64 0]) rfl
        have z4 := blk_put z3 2 (Value.int .i64 1) (cs' := #[.int .u8 (kindE a0 p), .int .i64 (↑t - ↑p), .int .i64 1]) rfl
        have y1 := hB5.setCell hg0 (p := ⟨g, 2, none⟩) (Value.int .i64 1)
        have y2 := y1.setCell (p := ⟨w.heap.size, 0, none⟩) (Nat.le_refl _) (Value.int .u8 (kindE a0 p))
        have y3 := y2.setCell (p := ⟨w.heap.size, 1, none⟩) (Nat.le_refl _) (Value.int .i64 (↑t - ↑p))
        have y4 := y3.setCell (p := ⟨w.heap.size, 2, none⟩) (Nat.le_refl _) (Value.int .i64 1)
        clear y1 y2 y3 z1 z2 z3
        have e1 := results_ct (P := Tryd.prog) Tryd.results14
        refine bodyPost_ret (v := .tuple #[.agg #[.int .u8 (kindE a0 p), .int .i64 (↑t - ↑p), .int .i64 1], .bool true]) ?_ rfl ⟨?_, y4⟩
        · exact e1 _ _ w.heap.size 23 _ (0, 0) _ rfl z4 Tryd.underlying23 rfl (by kernel_rfl)
        · rw [HTE.out, HLE2.out]
      | false =>
        cases wg with
        | true =>
          have HLE2 : Aside0 (lookE a0 p = min 3 ((a0.size : Int) - t + 1)) := ⟨by rw [HLE.out, if_neg (by rw [hl]; simp), if_pos rfl]⟩
          clear hl HLE
          go_wp2
          have z1 := blk_far HR5.out (p := ⟨g, 2, none⟩) (by simpa using hne2) (Value.int .i64 (min 3 ((a0.size : Int) - ↑t + 1)))
          have z2 := blk_put z1 0 (Value.int .u8 (kindE a0 p)) (cs' := #[.int .u8 (kindE a0 p), .int .i64 0, .int .i64 0]) rfl
          have z3 := blk_put z2 1 (Value.int .i64 (↑t - ↑p)) (cs' := #[.int .u8 (kindE a0 p), .int .i64 (↑t - ↑p), .int .i64 0]) rfl
          have z4 := blk_put z3 2 (Value.int .i64 (min 3 ((a0.size : Int) - ↑t + 1))) (cs' := #[.int .u8 (kindE a0 p), .int .i64 (↑t - ↑p), .int .i64 (min 3 ((a0.size : Int) - ↑t + 1))]) rfl
          have y1 := hB5.setCell hg0 (p := ⟨g, 2, none⟩) (Value.int .i64 (min 3 ((a0.size : Int) - ↑t + 1)))
          have y2 := y1.setCell (p := ⟨w.heap.size, 0, none⟩) (Nat.le_refl _) (Value.int .u8 (kindE a0 p))
          have y3 := y2.setCell (p := ⟨w.heap.size, 1, none⟩) (Nat.le_refl _) (Value.int .i64 (↑t - ↑p))
          have y4 := y3.setCell (p := ⟨w.heap.size, 2, none⟩) (Nat.le_refl _) (Value.int .i64 (min 3 ((a0.size : Int) - ↑t + 1)))
          clear y1 y2 y3 z1 z2 z3
          have e1 := results_ct (P := Tryd.prog) Tryd.results14
          refine bodyPost_ret (v := .tuple #[.agg #[.int .u8 (kindE a0 p), .int .i64 (↑t - ↑p), .int .i64 (min 3 ((a0.size : Int) - ↑t + 1))], .bool true]) ?_ rfl ⟨?_, y4⟩
          · exact e1 _ _ w.heap.size 23 _ (0, 0) _ rfl z4 Tryd.underlying23 rfl (by kernel_rfl)
          · rw [HTE.out, HLE2.out]
        | false =>
          have HLE2 : Aside0 (lookE a0 p = 0) := ⟨by rw [HLE.out, if_neg (by rw [hl]; simp), if_neg (by simp)]⟩
          clear hl HLE
          go_wp2
          have z1 := HR5.out
          have z2 := blk_put z1 0 (Value.int .u8 (kindE a0 p)) (cs' := #[.int .u8 (kindE a0 p), .int .i64 0, .int .i64 0]) rfl
          have z3 := blk_put z2 1 (Value.int .i64 (↑t - ↑p)) (cs' := #[.int .u8 (kindE a0 p), .int .i64 (↑t - ↑p), .int .i64 0]) rfl
          have z4 := blk_put z3 2 (Value.int .i64 0) (cs' := #[.int .u8 (kindE a0 p), .int .i64 (↑t - ↑p), .int .i64 0]) rfl
          have y1 := hB5
          have y2 := y1.setCell (p := ⟨w.heap.size, 0, none⟩) (Nat.le_refl _) (Value.int .u8 (kindE a0 p))
          have y3 := y2.setCell (p := ⟨w.heap.size, 1, none⟩) (Nat.le_refl _) (Value.int .i64 (↑t - ↑p))
          have y4 := y3.setCell (p := ⟨w.heap.size, 2, none⟩) (Nat.le_refl _) (Value.int .i64 0)
          clear y1 y2 y3 z1 z2 z3
          have e1 := results_ct (P := Tryd.prog) Tryd.results14
          refine bodyPost_ret (v := .tuple #[.agg #[.int .u8 (kindE a0 p), .int .i64 (↑t - ↑p), .int .i64 0], .bool true]) ?_ rfl ⟨?_, y4⟩
          · exact e1 _ _ w.heap.size 23 _ (0, 0) _ rfl z4 Tryd.underlying23 rfl (by kernel_rfl)
          · rw [HTE.out, HLE2.out]

theorem dfa_Scan.calls (a0 : ByteArray) (a1 r1 r2 r3 : Int) (r4 : Bool) (w : World) (h : dfa_Scan.f a0 a1 = some (r1, r2, r3, r4)) (hT : Tabs w) :
    Calls Tryd.prog 14 #[.string a0, .int .i64 a1] w fun e w' => e = .returned (.tuple #[.agg #[.int .u8 r1, .int .i64 r2, .int .i64 r3], .bool r4]) ∧ Below w.heap.size w w' := by
  unfold dfa_Scan.f at h
  by_cases hs : a0.size ≤ 4611686018427387000
  · rw [if_pos hs] at h
    by_cases h0 : 0 ≤ a1
    · rw [if_pos h0] at h
      by_cases h1 : a1 < a0.size
      · rw [if_pos h1] at h
        simp only [Option.some.injEq, Prod.mk.injEq] at h
        obtain ⟨rfl, rfl, rfl, rfl⟩ := h
        obtain ⟨p, rfl⟩ := Int.eq_ofNat_of_zero_le h0
        exact scan_some a0 p w hs (by omega) hT
      · rw [if_neg h1] at h
        simp only [Option.some.injEq, Prod.mk.injEq] at h
        obtain ⟨rfl, rfl, rfl, rfl⟩ := h
        exact scan_none a0 a1 w (.inr (by omega))
    · rw [if_neg h0] at h
      simp only [Option.some.injEq, Prod.mk.injEq] at h
      obtain ⟨rfl, rfl, rfl, rfl⟩ := h
      exact scan_none a0 a1 w (.inl (by omega))
  · rw [if_neg hs] at h; cases h
end Go.Proofs.YtdnkjfcndjmdbaaDoor.G
