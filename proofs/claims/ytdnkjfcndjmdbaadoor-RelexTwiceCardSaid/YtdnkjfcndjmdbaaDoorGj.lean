/- slices.AppendSeq and slices.Collect over lex.each's iterator; lex.All. -/
import Derived.Test.YtdnkjfcndjmdbaaDoorGi
import Derived.Maps.OwnIn
import Derived.RangeFuncRecord
namespace Go.Proofs.YtdnkjfcndjmdbaaDoor.G
open Go.RowKit Go.Shelf Go.Proofs.YtdnkjfcndjmdbaaDoorW.PrintWords Go.Proofs.YtdnkjfcndjmdbaaDoorW.PrintLast Go.Proofs.YtdnkjfcndjmdbaaDoorW.PrintMore
open Q (S23 k23)
attribute [local go_sem] Oper.semAt_some

def cellsT (x : S23) : List Value := [.int .u8 x.f0, .int .i64 x.f1, .int .i64 x.f2]
def flatT (xs : List S23) : List Value := xs.flatMap cellsT
theorem flatT_snoc (xs : List S23) (x : S23) : flatT (xs ++ [x]) = flatT xs ++ cellsT x := by simp [flatT]
theorem flatT_len (xs : List S23) : (flatT xs).length = xs.length * 3 := by
  induction xs with
  | nil => rfl
  | cons x xs ih => simp [flatT, cellsT] at ih ⊢; omega
theorem flatT_reps (xs : List S23) (w : World) (base : Nat) (ok : Nat → Prop) : Reps (k23.M w base ok) 3 xs (flatT xs) := by
  refine ⟨flatT_len xs, ?_⟩
  induction xs with
  | nil => intro j p h; simp at h
  | cons x xs ih =>
    intro j p h
    cases j with
    | zero =>
      simp at h
      subst h
      exact Q.k23_mkM w base ok x
    | succ j =>
      have := ih j p (by simpa using h)
      have e : (j + 1) * 3 = j * 3 + 3 := by omega
      simpa [flatT, cellsT, e] using this
theorem rowT {w : World} {n₀ : Nat} {v : Value} {xs : List S23} (h : w.ownsRow n₀ 23 3 v xs.length (flatT xs)) : Kd.R k23 23 w n₀ (fun _ => True) v xs :=
  ⟨fun _ _ => trivial, flatT xs, h, flatT_reps xs _ _ _⟩
theorem rowB_box {W : World} {B : Nat} {t : TypeId} {v : Value} (h : Boxed W B t v) : rowB W B = v.ownBlock := by
  unfold rowB
  rw [h.cell]
  rfl
/-- A block of cells abides an iterator's steps. -/
theorem cells_kept {X Y : World} {row : Option Nat} {k : Nat} {c : Array Value} {t : TypeId} {f : Nat × Nat} (h : X.heap[k]? = some (.cells c t f)) (hg : X.grownBy Y row) (hr : ∀ r, row = some r → ∃ o : Obj, X.heap[r]? = some o ∧ o.isCells = false) : Y.heap[k]? = some (.cells c t f) :=
  (hg.block k (Array.getElem?_eq_some_iff.1 h).1 (fun e => by obtain ⟨o, ho, hc⟩ := hr k e.symm; rw [h] at ho; cases ho; cases hc)).trans h

theorem cells_new3 (w : World) (a b c : Value) (t : TypeId) : ∀ j u, [a, b, c][j]? = some u → (w.alloc (.cells #[a, b, c] t)).cell? ((⟨w.heap.size, 0, none⟩ : Addr).add j) = some u := by
  intro j u hj
  have h := World.alloc_heap_new w (.cells #[a, b, c] t)
  match j, hj with
  | 0, hj => simp at hj; subst hj; show World.cell? _ ⟨w.heap.size, 0, none⟩ = _; unfold World.cell?; rw [h]; rfl
  | 1, hj => simp at hj; subst hj; show World.cell? _ ⟨w.heap.size, 1, none⟩ = _; unfold World.cell?; rw [h]; rfl
  | 2, hj => simp at hj; subst hj; show World.cell? _ ⟨w.heap.size, 2, none⟩ = _; unfold World.cell?; rw [h]; rfl
  | j + 3, hj => simp at hj

theorem kq_app {W w1 : World} {v v' : Value} {o : Obj} {n₀ Bs k n : Nat} {t e size : Nat} {xs : List Value} (hv : Boxed W Bs t v) (hb2 : Below n₀ W (w1.setCell ⟨Bs, 0, none⟩ v')) (hgrow : (W.alloc o).grownBy w1 v.ownBlock)
    (hv2 : Boxed (w1.setCell ⟨Bs, 0, none⟩ v') Bs t v') (hr2 : (w1.setCell ⟨Bs, 0, none⟩ v').ownsRow n e size v' k xs) (hat : v'.ownBlock = v.ownBlock ∨ v'.ownBlock = some (W.alloc o).heap.size) : Kq n₀ Bs W (w1.setCell ⟨Bs, 0, none⟩ v') := by
  refine ⟨hb2, fun hok => ⟨fun k hk => ?_, fun k c t f hk hne hr => ?_⟩⟩
  · rw [rowB_box hv2] at hk
    exact (hr2.lt k hk).2
  · have hlt := (Array.getElem?_eq_some_iff.1 hk).1
    rw [rowB_box hv] at hr
    refine ⟨((Below.heap_setCell w1 ⟨Bs, 0, none⟩ v' k hne).trans (hgrow.block k (by simp; omega) (fun e => hr e.symm))).trans (Below.heap_alloc W o k hlt), ?_⟩
    rw [rowB_box hv2]
    rcases hat with h | h
    · rw [h]; exact hr
    · rw [h]
      intro e
      injection e with e
      simp at e
      omega

set_option maxRecDepth 100000 in
set_option maxHeartbeats 4000000 in
theorem appendSeq_in (n : Nat) (hn : 4 ≤ n) (Bn : Nat) (s : ByteArray) (hs : s.size ≤ 40000000000) (w0 w : World) (hT0 : Tabs w0) (hb : Below w0.heap.size w0 w) (hBn : Boxed w Bn 9 (.string s)) :
    CallsIn Fence.wide n Tryd.prog 65 #[.slice none 0 0, .func (.func 66) #[] #[.pointer (some ⟨Bn, 0, none⟩)]] w fun e w' =>
      ∃ v, e = .returned v ∧ Kd.R k23 23 w' w.heap.size (fun _ => True) v (toks s 0) ∧ Below w.heap.size w w' := by
  have h1 : 1 ≤ n := by omega
  have hBl : Bn < w.heap.size := hBn.lt
  obtain ⟨i0, hi, hz0, hz1, hz2⟩ := info_parts Q.info23
  refine callsIn_of_wp_marks Tryd.func65 rfl trivial ?_ rfl
  simp only [Tryd.ntmps65, List.size_toArray, List.length_cons, List.length_nil, Nat.reduceAdd, Nat.reduceSub, Array.replicate_succ, Array.replicate_zero, List.push_toArray, List.append_toArray, List.nil_append, List.cons_append]
  gi_wp2
  have bO := Boxed.new w 32 (.slice none 0 0)
  have hB0 : Below w.heap.size w (w.alloc (.cells #[.slice none 0 0] 32)) := (Below.refl _ w).alloc (Nat.le_refl _) _
  refine wpIn_rangeFunc_ownH rfl h1 (gf := 66) (lb := #[.pointer (some ⟨Bn, 0, none⟩)]) rfl trivial (enters_of Tryd.func66 (by kernel_rfl) rfl)
    (each_stops (n - 1) (by omega) Bn w.heap.size w.heap.size s (by omega) w0 (w.alloc (.cells #[.slice none 0 0] 32)) hT0 hb.size (hb.trans (hB0.mono hb.size)) (by simp) (by simp)
      (fun k hk => by rw [rowB_box bO] at hk; cases hk) (hBn.alloc _) (by omega) (by rw [rowB_box bO]; simp [Value.ownBlock]))
    Kq.trans (fun W l o o' hl ho hc _ => Kq.put W l o o' (by simp at hl; omega) (by simp at hl; omega) ho hc) (Below.refl _ _) (fun _ => rfl)
    (fun pre W => (∃ v, Boxed W w.heap.size 32 v ∧ W.ownsRow w.heap.size 23 3 v pre.length (flatT pre) ∧ (v = .slice none 0 0 ↔ pre = [])) ∧ Below w.heap.size w W)
    (fun _ _ _ => False)
    (OwnFrom.and (Own.from (holdsRow_own w.heap.size w.heap.size 32 23 3 (fun pre : List S23 => pre.length) (fun pre => flatT pre) (fun pre v => v = .slice none 0 0 ↔ pre = [])) _) (ownFrom_below (Nat.le_refl _) (by simp)))
    (fun _ _ _ _ _ hs _ _ => hs)
    ⟨⟨_, bO, World.ownsRow_nil _ _ _ _, by simp⟩, hB0⟩
    (fun x a' W => ∃ Bx, w.heap.size < Bx ∧ W.heap[Bx]? = some (.cells #[.int .u8 x.f0, .int .i64 x.f1, .int .i64 x.f2] 23 (0, 0)) ∧ a' = { tmps := #[.slice none 0 0, .func (.func 66) #[] #[.pointer (some ⟨Bn, 0, none⟩)], .pointer (some ⟨w.heap.size, 0, none⟩), undef, .slice none 0 0, .pointer (some ⟨Bx, 0, none⟩), .func (.func 66) #[] #[.pointer (some ⟨Bn, 0, none⟩)], encT x, undef, undef, undef, undef, undef], defers := [] })
    (fun x a' _ X Y row hs hg hr => by obtain ⟨Bx, h1, h2, h3⟩ := hs; exact ⟨Bx, h1, cells_kept h2 hg (fun r e => (hr r e).2), h3⟩)
    ?assign ?body ?done ?stop
  case assign =>
    rintro l pre x W K ⟨⟨v, hv, hrow, hnil⟩, hB⟩ hK
    have hBW := hv.lt
    dsimp only [encT]
    gi_wp2
    exact hK _ _ ((KeepsOthers.alloc _ _).from _) (Kq.quiet (by omega) hBW ((Below.refl _ W).alloc (Nat.le_refl _) _)) ⟨⟨v, hv.alloc _, hrow.alloc _, hnil⟩, hB.alloc hB.size _⟩ ⟨W.heap.size, hBW, World.alloc_heap_new W _, rfl⟩
  case body =>
    rintro l pre x a' W hl hr ⟨⟨v, hv, hrow, hnil⟩, hB⟩ ⟨Bx, hBx, bX, rfl⟩ hlt
    have hc := hv.cell
    have hts := toks_len s (s.size + 1) 0
    have hts' : (toks s 0).length ≤ s.size := by simpa [toks] using hts
    have cX0 : W.cell? ⟨Bx, 0, none⟩ = some (.int .u8 x.f0) := by simp [World.cell?, bX]
    have cX1 : W.cell? ⟨Bx, 1, none⟩ = some (.int .i64 x.f1) := by simp [World.cell?, bX]
    have cX2 : W.cell? ⟨Bx, 2, none⟩ = some (.int .i64 x.f2) := by simp [World.cell?, bX]
    gi_wp2_with (gi_at_builtin; refine wpListIn_append_own_at _ rfl _ _ 32 rfl w.heap.size 23 i0 _ 3 24 Tryd.underlying32 hi hz0 hz1 hz2 rfl (by decide) _ _ _ rfl (hrow.alloc _) ⟨W.heap.size, 0, none⟩ 1 1 (cellsT x) rfl rfl (cells_new3 _ _ _ _ _) (by simp [cellsT, Value.oneCell']) (by simp only [maxLen]; omega) (by omega) (by have := hB.size; simp; omega) ?_; intro v' w1 hown' hgrow _ hat; obtain ⟨g', cap', rfl⟩ := ownsRow_succ hown'; obtain ⟨hv1, hv2, hr2, hk2, hb2⟩ := hv.appended (by decide) hrow hB.size (Nat.le_refl _) hown' hgrow; have hc1 := hv1.cell; have hf1 := hv1.frozen)
    exact ⟨hk2.from _, kq_app hv hb2 hgrow hv2 hr2 hat, ⟨_, hv2, by rw [flatT_snoc]; simpa using hr2, by simp⟩, hB.trans hb2⟩
  case done =>
    rintro D ys W hD rfl ⟨⟨v, hv, hrow, hnil⟩, hB⟩ hK
    have hc := hv.cell
    gi_wp2
    refine ⟨by simp, .inl ⟨_, _, rfl, run_takeDeferred hK, ?_⟩⟩
    exact ⟨_, results_tmp rfl _ _ _, v, rfl, rowT (ownsRow_putObj hrow _ hK rfl), hB.trans (belowK_b (w := w) (Nat.le_refl _) W D _ _ (by simp at hD; omega) hK rfl rfl)⟩
  case stop =>
    rintro D c pre W _ _ h _
    exact h.elim

set_option maxHeartbeats 4000000 in
theorem collect_in (n : Nat) (hn : 5 ≤ n) (Bn : Nat) (s : ByteArray) (hs : s.size ≤ 40000000000) (w0 w : World) (hT0 : Tabs w0) (hb : Below w0.heap.size w0 w) (hBn : Boxed w Bn 9 (.string s)) :
    CallsIn Fence.wide n Tryd.prog 49 #[.func (.func 66) #[] #[.pointer (some ⟨Bn, 0, none⟩)]] w fun e w' =>
      ∃ v, e = .returned v ∧ Kd.R k23 23 w' w.heap.size (fun _ => True) v (toks s 0) ∧ Below w.heap.size w w' := by
  have h1 : 1 ≤ n := by omega
  refine callsIn_of_wp Tryd.func49 rfl trivial ?_ rfl
  simp only [Tryd.ntmps49, List.size_toArray, List.length_cons, List.length_nil, Nat.reduceAdd, Nat.reduceSub, Array.replicate_succ, Array.replicate_zero, List.push_toArray, List.append_toArray, List.nil_append, List.cons_append]
  gi_wp2_with (refine ⟨trivial, ?_⟩; gi_at_call 65; refine (appendSeq_in (n - 1) (by omega) Bn s hs w0 w hT0 hb hBn).mono ?_; rintro e w' ⟨v, rfl, hR, hB⟩)
  all_goals go_ret
  all_goals exact ⟨_, rfl, hR, hB⟩

set_option maxHeartbeats 4000000 in
theorem each_in (n : Nat) (s : ByteArray) (w : World) :
    CallsIn Fence.wide n Tryd.prog 50 #[.string s] w fun e w' => e = .returned (.func (.func 66) #[] #[.pointer (some ⟨w.heap.size, 0, none⟩)]) ∧ w' = w.alloc (.cells #[.string s] 9) := by
  refine callsIn_of_wp Tryd.func50 rfl trivial ?_ rfl
  simp only [Tryd.ntmps50, List.size_toArray, List.length_cons, List.length_nil, Nat.reduceAdd, Nat.reduceSub, Array.replicate_succ, Array.replicate_zero, List.push_toArray, List.append_toArray, List.nil_append, List.cons_append]
  gi_wp2
  go_ret
  exact ⟨rfl, rfl⟩

def lex_All.f (s : ByteArray) : Option (List S23) := if s.size ≤ 40000000000 then some (toks s 0) else none
set_option maxHeartbeats 4000000 in
theorem lex_All.calls (s : ByteArray) (r : List S23) (w : World) (h : lex_All.f s = some r) (hT : Tabs w) :
    Calls Tryd.prog 20 #[.string s] w fun e w' => ∃ v0_ : Value, e = .returned v0_ ∧ Kd.R k23 23 w' w.heap.size (fun _ => True) v0_ r ∧ Below w.heap.size w w' := by
  unfold lex_All.f at h
  by_cases hs : s.size ≤ 40000000000
  · rw [if_pos hs] at h
    obtain rfl := Option.some.inj h
    clear h
    refine (callsIn_wide (n := 9)).1 ?_
    have hb : Below w.heap.size w (w.alloc (.cells #[.string s] 9)) := (Below.refl _ w).alloc (Nat.le_refl _) _
    refine callsIn_of_wp Tryd.func20 rfl trivial ?_ rfl
    simp only [Tryd.ntmps20, List.size_toArray, List.length_cons, List.length_nil, Nat.reduceAdd, Nat.reduceSub, Array.replicate_succ, Array.replicate_zero, List.push_toArray, List.append_toArray, List.nil_append, List.cons_append]
    gi_wp2_with (first | (refine ⟨trivial, ?_⟩; gi_at_call 50; refine (each_in 8 s w).mono ?_; rintro e w' ⟨rfl, rfl⟩) | (refine ⟨trivial, ?_⟩; gi_at_call 49; refine (collect_in 8 (by omega) w.heap.size s hs w (w.alloc (.cells #[.string s] 9)) hT hb (Boxed.new w 9 (.string s))).mono ?_; rintro e w' ⟨v, rfl, hR, hB⟩))
    all_goals go_ret
    all_goals exact ⟨_, rfl, Kd.R_lower hR hb.size, hb.trans (hB.mono hb.size)⟩
  · rw [if_neg hs] at h; cases h
end Go.Proofs.YtdnkjfcndjmdbaaDoor.G
