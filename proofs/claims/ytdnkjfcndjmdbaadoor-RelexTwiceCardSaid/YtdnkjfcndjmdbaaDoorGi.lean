/- lex.each's iterator: a text's tokens, one by one. -/
import Derived.Test.YtdnkjfcndjmdbaaDoorPs
import Derived.Test.YtdnkjfcndjmdbaaDoorQx0
import Derived.RangeFuncNested
import Derived.RangeFuncBound
import Derived.RangeFuncCalls
import Derived.RangeFuncLeaves
import Derived.RangeFuncBox
import Derived.OwnWalkIn
import Derived.TacticsInMore
import Derived.LoopNIn
import Derived.LoopIn
import Derived.Maps.AppendAt
namespace Go.Proofs.YtdnkjfcndjmdbaaDoor.G
open Go.RowKit Go.Shelf Go.Proofs.YtdnkjfcndjmdbaaDoorW.PrintWords Go.Proofs.YtdnkjfcndjmdbaaDoorW.PrintLast Go.Proofs.YtdnkjfcndjmdbaaDoorW.PrintMore
open Q (S23 k23)
attribute [local go_sem] Oper.semAt_some

def tokAt (s : ByteArray) (p : Nat) : S23 := ⟨kindE s p, ((scanE s p).2.1 : Int) - p, lookE s p⟩
def toksN (s : ByteArray) : Nat → Nat → List S23
  | 0, _ => []
  | n + 1, p => if p < s.size then tokAt s p :: toksN s n (scanE s p).2.1 else []
def toks (s : ByteArray) (p : Nat) : List S23 := toksN s (s.size + 1) p

theorem scanE_end (s : ByteArray) (p : Nat) (hp : p < s.size) : p < (scanE s p).2.1 ∧ (scanE s p).2.1 ≤ s.size := by
  unfold scanE scanL
  have hc := cls_range (Utf8.decode s p).1
  obtain ⟨c, hcc⟩ := Int.eq_ofNat_of_zero_le hc.1
  have hg := P.goes_start c (by omega)
  rw [if_pos hp, hcc, if_neg (by omega)]
  have h := scanL_le s s.size (goesF 0 c) (p + (Utf8.decode s p).2) (decide ((0 : Int) = 0 ∧ ((Utf8.decode s p).1 : Int) = 65533 ∧ ((Utf8.decode s p).2 : Int) = 1)) (by omega) hg.2 (P.dec_le s p hp)
  exact ⟨by have := P.dec_pos s p; omega, h.2.1⟩
theorem toksN_fuel (s : ByteArray) : ∀ n m p, s.size < p + n → s.size < p + m → toksN s n p = toksN s m p := by
  intro n
  induction n with
  | zero =>
    intro m p h1 h2
    cases m with
    | zero => rfl
    | succ m => unfold toksN; rw [if_neg (by omega)]
  | succ n ih =>
    intro m p h1 h2
    cases m with
    | zero => unfold toksN; rw [if_neg (by omega)]
    | succ m =>
      unfold toksN
      by_cases hp : p < s.size
      · rw [if_pos hp, if_pos hp]
        have he := scanE_end s p hp
        rw [ih m _ (by omega) (by omega)]
      · rw [if_neg hp, if_neg hp]
theorem toks_eq (s : ByteArray) (p : Nat) : toks s p = if p < s.size then tokAt s p :: toks s (scanE s p).2.1 else [] := by
  unfold toks
  conv => lhs; unfold toksN
  by_cases hp : p < s.size
  · rw [if_pos hp, if_pos hp]
    have he := scanE_end s p hp
    rw [toksN_fuel s s.size (s.size + 1) _ (by omega) (by omega)]
  · rw [if_neg hp, if_neg hp]
theorem toks_len (s : ByteArray) : ∀ n p, (toksN s n p).length ≤ s.size - p := by
  intro n
  induction n with
  | zero => intro p; simp [toksN]
  | succ n ih =>
    intro p
    unfold toksN
    by_cases hp : p < s.size
    · rw [if_pos hp]
      have he := scanE_end s p hp
      have := ih (scanE s p).2.1
      simp
      omega
    · rw [if_neg hp]; simp
def encT (x : S23) : Value := .agg #[.int .u8 x.f0, .int .i64 x.f1, .int .i64 x.f2]

theorem grown_of_below {W W' : World} (h : Below W.heap.size W W') : W.grownBy W' none := ⟨h.os, h.tape, h.output, h.size, fun k hk _ => h.block k hk⟩

/-- The block of the row that the box holds. -/
def rowB (W : World) (Bs : Nat) : Option Nat := (W.cell? ⟨Bs, 0, none⟩).bind Value.ownBlock
def RowOK (W : World) (Bs : Nat) : Prop := ∀ k, rowB W Bs = some k → k < W.heap.size
/-- What a round keeps: below n₀ all; else every block of cells but the box and the row that it holds. -/
def Kq (n₀ Bs : Nat) (W W' : World) : Prop := Below n₀ W W' ∧ (RowOK W Bs → RowOK W' Bs ∧
  ∀ k c t f, W.heap[k]? = some (.cells c t f) → k ≠ Bs → rowB W Bs ≠ some k → W'.heap[k]? = W.heap[k]? ∧ rowB W' Bs ≠ some k)
theorem Kq.trans {n₀ Bs : Nat} {A B C : World} (h : Kq n₀ Bs A B) (h' : Kq n₀ Bs B C) : Kq n₀ Bs A C := by
  refine ⟨h.1.trans h'.1, fun hA => ?_⟩
  obtain ⟨hB, h1⟩ := h.2 hA
  obtain ⟨hC, h2⟩ := h'.2 hB
  refine ⟨hC, fun k c t f hk hne hr => ?_⟩
  obtain ⟨e1, e2⟩ := h1 k c t f hk hne hr
  obtain ⟨e3, e4⟩ := h2 k c t f (e1.trans hk) hne e2
  exact ⟨e3.trans e1, e4⟩
theorem rowB_same {W W' : World} {Bs : Nat} (h : W'.heap[Bs]? = W.heap[Bs]?) : rowB W' Bs = rowB W Bs := by
  unfold rowB World.cell?
  rw [h]
theorem Kq.put {n₀ Bs : Nat} (W : World) (l : Nat) (o o' : Obj) (hl : n₀ ≤ l) (hB : Bs < l) (ho : W.heap[l]? = some o) (hc : o.isCells = false) : Kq n₀ Bs W (W.putObj l o') := by
  have hb : Below n₀ W (W.putObj l o') := ⟨rfl, rfl, rfl, by simp, fun k hk => World.putObj_heap_other (by omega)⟩
  have hr : rowB (W.putObj l o') Bs = rowB W Bs := rowB_same (World.putObj_heap_other (by omega))
  refine ⟨hb, fun hA => ⟨fun k hk => Nat.lt_of_lt_of_le (hA k (hr ▸ hk)) hb.size, fun k c t f hk hne hrk => ⟨World.putObj_heap_other (fun e => ?_), by rw [hr]; exact hrk⟩⟩⟩
  subst e
  rw [hk] at ho
  cases ho
  cases hc
theorem Kq.quiet {n₀ Bs : Nat} {W W' : World} (hn : n₀ ≤ W.heap.size) (hB : Bs < W.heap.size) (h : Below W.heap.size W W') : Kq n₀ Bs W W' := by
  have hr : rowB W' Bs = rowB W Bs := rowB_same (h.block Bs hB)
  refine ⟨h.mono hn, fun hA => ⟨fun k hk => Nat.lt_of_lt_of_le (hA k (hr ▸ hk)) h.size, fun k c t f hk hne hrk => ⟨h.block k ?_, by rw [hr]; exact hrk⟩⟩⟩
  exact (Array.getElem?_eq_some_iff.1 hk).1

set_option maxRecDepth 100000 in
set_option maxHeartbeats 4000000 in
theorem each1_in (n : Nat) (hn : 1 ≤ n) (l Bn n₀ Bs : Nat) (s : ByteArray) (hs : s.size ≤ 4611686018427387000) (xs : List S23) (hxs : xs = toks s 0) (J Jx : List S23 → World → Prop) (w0 : World) (hT0 : Tabs w0) (hn0 : w0.heap.size ≤ n₀)
    (hY : ∀ pre x W, J pre W → pre.length < xs.length → YieldAt Fence.wide (n - 1) Tryd.prog l #[encT x] W fun e W' =>
      (e = .returned (.bool true) ∧ J (pre ++ [x]) W' ∧ Kq n₀ Bs W W') ∨ (e = .returned (.bool false) ∧ Jx (pre ++ [x]) W'))
    (W : World) (hJ : AbidesFrom W.heap.size J) (hW : Below w0.heap.size w0 W) (hn1 : n₀ ≤ W.heap.size) (hBs : Bs < W.heap.size) (hRow : RowOK W Bs) (hBn : Boxed W Bn 9 (.string s)) (hBe : Bn ≠ Bs) (hBr : rowB W Bs ≠ some Bn) (h0 : J [] W) :
    CallsIn Fence.wide n Tryd.prog 66 #[.func (.yield l) #[] #[], .pointer (some ⟨Bn, 0, none⟩)] W fun e W' => (∃ v, e = .returned v) ∧
      ((∃ ys, ys = xs ∧ J ys W') ∨ (∃ pre, pre <+: xs ∧ Jx pre W')) := by
  refine callsIn_of_wp Tryd.func66 rfl trivial ?_ rfl
  simp only [Tryd.ntmps66, List.size_toArray, List.length_cons, List.length_nil, Nat.reduceAdd, Nat.reduceSub, Array.replicate_succ, Array.replicate_zero, List.push_toArray, List.append_toArray, List.nil_append, List.cons_append]
  gi_wp2
  gi_loopw [3] (fun p wr => ∃ (pre : List S23) (q : Nat), p = .int .i64 (q : Int) ∧ q ≤ s.size ∧ xs = pre ++ toks s q ∧ Below w0.heap.size w0 wr ∧ Below n₀ W wr ∧ RowOK wr Bs ∧ Boxed wr Bn 9 (.string s) ∧ rowB wr Bs ≠ some Bn ∧ Bs < wr.heap.size ∧ J pre wr)
    (fun p _ => s.size - (intOf p).toNat)
  case atStart =>
    exact ⟨[], 0, rfl, by omega, hxs, hW, Below.refl _ _, hRow, hBn, hBr, hBs, h0⟩
  case round =>
    clear hBr
    obtain ⟨pre, q, rfl, hq, hx, hB0, hBr, hRr, hBn', hrn, hBs', hJs⟩ := hrel
    have hbox := hBn'.cell
    by_cases hlt : q < s.size
    · have hT : Tabs wr := tabs_below hT0 hB0
      have he := scanE_end s q hlt
      have hxt : toks s q = tokAt s q :: toks s (scanE s q).2.1 := by rw [toks_eq, if_pos hlt]
      rw [hxt] at hx
      have hlen : pre.length < xs.length := by rw [hx]; simp
      gi_wp2_with (refine ⟨trivial, ?_⟩; gi_at_call 14; refine (callsIn_wide.2 (scan_some s q _ hs hlt hT)).mono ?_; rintro e w' ⟨rfl, hBw⟩; obtain ⟨fn, tmps, assign, body, hy, hR⟩ := hY pre (tokAt s q) (w'.alloc (.cells #[.int .u8 (kindE s q), .int .i64 (((scanE s q).2.1 : Int) - q), .int .i64 (lookE s q)] 23)) (hJ _ _ _ none (hJ _ _ _ none hJs (grown_of_below hBw) (fun r e => by cases e)) (World.grownBy_alloc w' _ none) (fun r e => by cases e)) hlen; dsimp only [encT, tokAt] at hy)
      refine hR.mono ?_
      have hBW : Below n₀ W (w'.alloc (.cells #[.int .u8 (kindE s q), .int .i64 (((scanE s q).2.1 : Int) - q), .int .i64 (lookE s q)] 23)) := (hBr.trans (hBw.mono (Nat.le_trans hn1 hBr.size))).alloc (Nat.le_trans hn1 (Nat.le_trans hBr.size hBw.size)) _
      rintro e W3 (⟨rfl, hJ3, hk3⟩ | ⟨rfl, hJx3⟩)
      · have hw1 : Below wr.heap.size wr (w'.alloc (.cells #[.int .u8 (kindE s q), .int .i64 (((scanE s q).2.1 : Int) - q), .int .i64 (lookE s q)] 23)) := hBw.alloc hBw.size _
        have hsz := hBr.size
        have hr1 : rowB (w'.alloc (.cells #[.int .u8 (kindE s q), .int .i64 (((scanE s q).2.1 : Int) - q), .int .i64 (lookE s q)] 23)) Bs = rowB wr Bs := rowB_same (hw1.block Bs (by omega))
        have hok : RowOK (w'.alloc (.cells #[.int .u8 (kindE s q), .int .i64 (((scanE s q).2.1 : Int) - q), .int .i64 (lookE s q)] 23)) Bs := fun k hk => Nat.lt_of_lt_of_le (hRr k (hr1 ▸ hk)) hw1.size
        obtain ⟨hok3, hkk⟩ := hk3.2 hok
        have hbx1 : Boxed _ Bn 9 (.string s) := (hw1.block Bn hBn'.lt).trans hBn'
        have hbx3 := hkk Bn _ _ _ hbx1 hBe (by rw [hr1]; exact hrn)
        have hkb := hkk w'.heap.size _ _ _ (World.alloc_heap_new w' _) (by have := hBw.size; omega) (fun e => by have := hRr _ (hr1 ▸ e); have := hBw.size; omega)
        have hc : W3.cell? ⟨w'.heap.size, 1, none⟩ = some (.int .i64 (((scanE s q).2.1 : Int) - q)) := by
          have h := hkb.1.trans (World.alloc_heap_new w' _)
          simp [World.cell?, h]
        have hw : (q : Int) + (((scanE s q).2.1 : Int) - q) = ((scanE s q).2.1 : Int) := by omega
        gi_wp2
        go_roundw
        case rel => exact ⟨pre ++ [tokAt s q], (scanE s q).2.1, by first | rfl | rw [hw], he.2, by simp [hx], hW.trans ((hBW.trans hk3.1).mono hn0), hBW.trans hk3.1, hok3, hbx3.1.trans hbx1, hbx3.2, Nat.lt_of_lt_of_le hBs' (Nat.le_trans hw1.size hk3.1.size), hJ3⟩
        case measure => (try rw [hw]); simp [intOf]; omega
      · gi_wp2
        refine bodyPost_ret (results_none rfl _ _ _) rfl ?_
        exact ⟨⟨_, rfl⟩, .inr ⟨pre ++ [tokAt s q], ⟨toks s (scanE s q).2.1, by simp [hx]⟩, hJx3⟩⟩
    · rw [toks_eq, if_neg hlt] at hx
      gi_wp2
      go_end0
      exact ⟨⟨_, rfl⟩, .inl ⟨pre, by simp [hx], hJs⟩⟩

/-- **lex.each's iterator**: all tokens, in the text's order; or a part of them. -/
theorem each_stops (n : Nat) (hn : 1 ≤ n) (Bn n₀ Bs : Nat) (s : ByteArray) (hs : s.size ≤ 4611686018427387000) (w0 w : World) (hT0 : Tabs w0) (hn0 : w0.heap.size ≤ n₀) (hb : Below w0.heap.size w0 w) (hn1 : n₀ ≤ w.heap.size) (hBs : Bs < w.heap.size)
    (hRow : RowOK w Bs) (hBn : Boxed w Bn 9 (.string s)) (hBe : Bn ≠ Bs) (hBr : rowB w Bs ≠ some Bn) :
    SeqStopsK Fence.wide n Tryd.prog 66 #[.pointer (some ⟨Bn, 0, none⟩)] (fun x : S23 => #[encT x]) (Kq n₀ Bs) (fun ys => ys = toks s 0) (fun pre => pre <+: toks s 0) (toks s 0).length w := fun l J Jx W hW hJ _ hY h0 =>
  have hr : rowB W Bs = rowB w Bs := rowB_same (hW.block Bs hBs)
  each1_in n hn l Bn n₀ Bs s hs (toks s 0) rfl J Jx w0 hT0 hn0 hY W hJ (hb.trans (hW.mono (Nat.le_trans hn0 hn1))) (Nat.le_trans hn1 hW.size) (Nat.lt_of_lt_of_le hBs hW.size)
    (fun k hk => Nat.lt_of_lt_of_le (hRow k (hr ▸ hk)) hW.size) ((hW.block Bn hBn.lt).trans hBn) hBe (by rw [hr]; exact hBr) h0
end Go.Proofs.YtdnkjfcndjmdbaaDoor.G
