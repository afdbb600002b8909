/- lex.Right, walked: a loop over lex.each's iterator that may leave early. -/
import Derived.Test.YtdnkjfcndjmdbaaDoorGj
import Derived.Test.YtdnkjfcndjmdbaaDoorGt
import Derived.Shelf.RegionOpen
import Derived.Test.YtdnkjfcndjmdbaaDoorQx1
namespace Go.Proofs.YtdnkjfcndjmdbaaDoor.G
open Go.RowKit Go.Shelf Go.Proofs.YtdnkjfcndjmdbaaDoorW.PrintWords Go.Proofs.YtdnkjfcndjmdbaaDoorW.PrintLast Go.Proofs.YtdnkjfcndjmdbaaDoorW.PrintMore
open Q (S23 k23)
attribute [local go_sem] Oper.semAt_some

theorem eqB (d : Nat) (w : World) (x0 y0 x1 y1 x2 y2 : Int) :
    (Op.equalIn (d + 2) 23 (.agg #[.int .u8 x0, .int .i64 x1, .int .i64 x2]) (.agg #[.int .u8 y0, .int .i64 y1, .int .i64 y2])).run Tryd.prog w = .ok (eqT ⟨x0, x1, x2⟩ ⟨y0, y1, y2⟩) w := Q.eqA23 d w x0 y0 x1 y1 x2 y2
attribute [local go_sem high] eqB
def lex_Right.f (s : ByteArray) (l : List S23) : Option Bool := if s.size ≤ 40000000000 then some (sameL (toks s 0) l) else none

theorem Kq.setInt {n₀ Bs : Nat} {W : World} {t : TypeId} {v : Value} (hb : Boxed W Bs t v) (hn : n₀ ≤ Bs) (k : IntKind) (i : Int) : Kq n₀ Bs W (W.setCell ⟨Bs, 0, none⟩ (.int k i)).drew := by
  have hr : rowB (W.setCell ⟨Bs, 0, none⟩ (.int k i)).drew Bs = none := (rowB_same rfl).trans (rowB_box (hb.set (.int k i)))
  refine ⟨((Below.refl n₀ W).setCell (p := ⟨Bs, 0, none⟩) hn _).drew, fun _ => ⟨fun k hk => (by rw [hr] at hk; cases hk), fun k' c t f hk hne _ => ⟨Below.heap_setCell W ⟨Bs, 0, none⟩ _ k' hne, by rw [hr]; simp⟩⟩⟩

set_option maxRecDepth 100000 in
set_option maxHeartbeats 80000000 in
theorem lex_Right.calls (s : ByteArray) (A1 : Option Addr) (c1 : Nat) (l1 : List S23) (r : Bool) (w : World) (hr1 : Kd.C k23 w A1 l1.length l1) (_hc1 : l1.length ≤ c1) (h : lex_Right.f s l1 = some r) (hT : Tabs w) :
    Calls Tryd.prog 23 #[.string s, .slice A1 l1.length c1] w fun e w' => e = .returned (.bool r) ∧ Below w.heap.size w w' := by
  unfold lex_Right.f at h
  by_cases hs : s.size ≤ 40000000000
  · rw [if_pos hs] at h
    obtain rfl := Option.some.inj h
    clear h
    have hl63 := hr1.2.1
    have HR := Aside0.mk hr1
    clear hr1
    refine (callsIn_wide (n := 9)).1 ?_
    refine callsIn_of_wp_marks Tryd.func23 rfl trivial ?_ rfl
    simp only [Tryd.ntmps23, List.size_toArray, List.length_cons, List.length_nil, Nat.reduceAdd, Nat.reduceSub, Array.replicate_succ, Array.replicate_zero, List.push_toArray, List.append_toArray, List.nil_append, List.cons_append]
    gi_wp2_with (refine ⟨trivial, ?_⟩; gi_at_call 50; refine (each_in 8 s _).mono ?_; rintro e w' ⟨rfl, rfl⟩)
    have bL := ((((Boxed.new w 32 (.slice A1 l1.length c1)).alloc (.cells #[.bool false] 4)).alloc (.cells #[.int .i64 0] 3)).alloc (.cells #[.string s] 9))
    have bR := (((Boxed.new (w.alloc (.cells #[.slice A1 l1.length c1] 32)) 4 (.bool false)).alloc (.cells #[.int .i64 0] 3)).alloc (.cells #[.string s] 9))
    have bN := ((Boxed.new ((w.alloc (.cells #[.slice A1 l1.length c1] 32)).alloc (.cells #[.bool false] 4)) 3 (.int .i64 0)).alloc (.cells #[.string s] 9))
    have bS := Boxed.new (((w.alloc (.cells #[.slice A1 l1.length c1] 32)).alloc (.cells #[.bool false] 4)).alloc (.cells #[.int .i64 0] 3)) 9 (.string s)
    have hB0 : Below w.heap.size w ((((w.alloc (.cells #[.slice A1 l1.length c1] 32)).alloc (.cells #[.bool false] 4)).alloc (.cells #[.int .i64 0] 3)).alloc (.cells #[.string s] 9)) := ((((Below.refl _ w).alloc (Nat.le_refl _) _).alloc (by simp) _).alloc (by simp; omega) _).alloc (by simp; omega) _
    have hsz : ((((w.alloc (.cells #[.slice A1 l1.length c1] 32)).alloc (.cells #[.bool false] 4)).alloc (.cells #[.int .i64 0] 3)).alloc (.cells #[.string s] 9)).heap.size = w.heap.size + 4 := by simp
    simp only [World.size_alloc] at bR bN bS
    obtain ⟨W0, hW0⟩ : ∃ W0, (((w.alloc (.cells #[.slice A1 l1.length c1] 32)).alloc (.cells #[.bool false] 4)).alloc (.cells #[.int .i64 0] 3)).alloc (.cells #[.string s] 9) = W0 := ⟨_, rfl⟩
    rw [hW0] at bL bR bN bS hB0 hsz ⊢
    clear hW0
    refine wpIn_rangeFunc_ownH rfl (by omega) (gf := 66) (lb := #[.pointer (some ⟨w.heap.size + 1 + 1 + 1, 0, none⟩)]) rfl trivial (enters_of Tryd.func66 (by kernel_rfl) rfl)
      (each_stops 8 (by omega) (w.heap.size + 1 + 1 + 1) w.heap.size (w.heap.size + 1 + 1) s (by omega) w W0 hT (Nat.le_refl _) hB0 (by omega) (by omega)
        (fun k hk => by rw [rowB_box bN] at hk; cases hk) bS (by omega) (by rw [rowB_box bN]; simp [Value.ownBlock]))
      Kq.trans (fun W l o o' hl ho hc _ => Kq.put W l o o' (by omega) (by omega) ho hc) (Below.refl _ _) (fun _ => rfl)
      (fun pre W => (Boxed W w.heap.size 32 (.slice A1 l1.length c1) ∧ Boxed W (w.heap.size + 1) 4 (.bool false) ∧ Boxed W (w.heap.size + 1 + 1) 3 (.int .i64 (pre.length : Nat)) ∧ pre = l1.take pre.length ∧ pre.length ≤ l1.length) ∧ Below w.heap.size w W)
      (fun c pre W => (Boxed W (w.heap.size + 1) 4 (.bool false) ∧ ¬ pre <+: l1 ∧ c = Code.ret) ∧ Below w.heap.size w W)
      (OwnFrom.and (OwnFrom.and (Own.from (boxed_own _ _ _) _) (OwnFrom.and (Own.from (boxed_own _ _ _) _) (OwnFrom.and (Own.from (boxed_own _ _ (fun pre : List S23 => Value.int .i64 (pre.length : Nat))) _) (ownFrom_pure _ (fun pre : List S23 => pre = l1.take pre.length ∧ pre.length ≤ l1.length))))) (ownFrom_below (Nat.le_refl _) (by omega)))
      (fun c => OwnFrom.and (OwnFrom.and (Own.from (boxed_own _ _ _) _) (ownFrom_pure _ (fun pre : List S23 => ¬ pre <+: l1 ∧ c = Code.ret))) (ownFrom_below (Nat.le_refl _) (by omega)))
      ⟨⟨bL, bR, bN, by simp, by simp⟩, hB0⟩
      (fun x a' W => ∃ Bx, w.heap.size + 1 + 1 < Bx ∧ W.heap[Bx]? = some (.cells #[.int .u8 x.f0, .int .i64 x.f1, .int .i64 x.f2] 23 (0, 0)) ∧ a' = { tmps := #[.string s, .slice A1 l1.length c1, undef, .pointer (some ⟨w.heap.size, 0, none⟩), .pointer (some ⟨w.heap.size + 1, 0, none⟩), .pointer (some ⟨w.heap.size + 1 + 1, 0, none⟩), .pointer (some ⟨Bx, 0, none⟩), .string s, .func (.func 66) #[] #[.pointer (some ⟨w.heap.size + 1 + 1 + 1, 0, none⟩)], encT x, undef, undef, undef, undef, undef, undef, undef, undef, undef, undef, undef, undef, undef, undef, undef, undef, undef, undef], defers := [] })
      (fun x a' _ X Y row hs hg hr => by obtain ⟨Bx, h1, h2, h3⟩ := hs; exact ⟨Bx, h1, cells_kept h2 hg (fun r e => (hr r e).2), h3⟩)
      ?assign ?body ?done ?stop
    case assign =>
      rintro l pre x W K ⟨⟨b1, b2, b3, e1, e2⟩, hB⟩ hK
      have hlt := b3.lt
      dsimp only [encT]
      gi_wp2
      exact hK _ _ ((KeepsOthers.alloc _ _).from _) (Kq.quiet (by omega) hlt ((Below.refl _ W).alloc (Nat.le_refl _) _)) ⟨⟨b1.alloc _, b2.alloc _, b3.alloc _, e1, e2⟩, hB.alloc hB.size _⟩ ⟨W.heap.size, hlt, World.alloc_heap_new W _, rfl⟩
    case body =>
      rintro l pre x a' W hl hr ⟨⟨b1, b2, b3, e1, e2⟩, hB⟩ ⟨Bx, hBx, bX, rfl⟩ hlt
      have cL := b1.cell
      have cN := b3.cell
      have fN := b3.frozen
      have cR := b2.cell
      have fR := b2.frozen
      have cX0 : W.cell? ⟨Bx, 0, none⟩ = some (.int .u8 x.f0) := by simp [World.cell?, bX]
      have cX1 : W.cell? ⟨Bx, 1, none⟩ = some (.int .i64 x.f1) := by simp [World.cell?, bX]
      have cX2 : W.cell? ⟨Bx, 2, none⟩ = some (.int .i64 x.f2) := by simp [World.cell?, bX]
      have E1 := Aside0.mk e1
      have E2 := Aside0.mk e2
      clear e1 e2
      have mixed : Tryd.prog.follows .mixedOrders = true := by kernel_rfl
      by_cases hn : pre.length = l1.length
      · have d0 : ((pre.length : Int) == (l1.length : Int)) = true := by simp [hn]
        have hno : ¬ (pre ++ [x]) <+: l1 := fun hp => by have := hp.length_le; simp at this; omega
        gi_wp2
        gi_region_with_o (fail)
        all_goals gi_wp2
        all_goals (try go_bits)
        all_goals exact ⟨((KeepsOthers.setCell W ⟨w.heap.size + 1, 0, none⟩ (.bool false)).trans (KeepsOthers.drew _)).from _, ⟨b2.set (.bool false), hno, rfl⟩, (hB.setCell (p := ⟨w.heap.size + 1, 0, none⟩) (by simp) _).drew⟩
      · have hlt1 : pre.length < l1.length := by have := E2.out; omega
        have d0 : ((pre.length : Int) == (l1.length : Int)) = false := by simp; omega
        obtain ⟨ad, e, x0, x1, x2⟩ := Q.at_T23 HR.out pre.length (by omega) (by omega)
        cases e
        replace x0 := (hB.cell (World.block_lt_of_cell? w _ x0)).trans x0
        replace x1 := (hB.cell (World.block_lt_of_cell? w _ x1)).trans x1
        replace x2 := (hB.cell (World.block_lt_of_cell? w _ x2)).trans x2
        simp only [Int.toNat_natCast] at x0 x1 x2
        have hrd : Q.rd_T23 l1 pre.length = l1[pre.length] := by simp [Q.rd_T23, List.getD, List.getElem?_eq_getElem hlt1]
        have htk : l1.take (pre.length + 1) = l1.take pre.length ++ [l1[pre.length]] := by rw [List.take_succ_eq_append_getElem hlt1]
        have p0 := eq_true (show 0 ≤ (pre.length : Int) by omega)
        have p1 := eq_true (show (pre.length : Int) < (l1.length : Int) by omega)
        by_cases hq : eqT (Q.rd_T23 l1 pre.length) x = true
        · have hx : l1[pre.length] = x := by rw [← hrd]; exact (eqT_iff _ _).1 hq
          replace hq : eqT ⟨(Q.rd_T23 l1 pre.length).f0, (Q.rd_T23 l1 pre.length).f1, (Q.rd_T23 l1 pre.length).f2⟩ ⟨x.f0, x.f1, x.f2⟩ = true := hq
          have e1' : pre ++ [x] = l1.take (pre ++ [x]).length := by rw [List.length_append, List.length_singleton, htk, ← E1.out, hx]
          have E3 := Aside0.mk e1'
          clear e1' hrd htk hx
          gi_wp2
          gi_region_with_o (fail)
          all_goals gi_wp2
          all_goals (try go_bits)
          all_goals exact ⟨((KeepsOthers.setCell W ⟨w.heap.size + 1 + 1, 0, none⟩ (.int .i64 ((pre.length : Int) + 1))).trans (KeepsOthers.drew _)).from _, Kq.setInt b3 (by omega) .i64 ((pre.length : Int) + 1), ⟨b1.other (by omega) _, b2.other (by omega) _, by rw [List.length_append]; exact b3.set _, E3.out, by rw [List.length_append]; exact hlt1⟩, (hB.setCell (p := ⟨w.heap.size + 1 + 1, 0, none⟩) (by simp; omega) _).drew⟩
        · have hx : l1[pre.length] ≠ x := fun e => hq (by rw [hrd, e]; exact (eqT_iff _ _).2 rfl)
          replace hq : eqT (Q.rd_T23 l1 pre.length) x = false := by simpa using hq
          replace hq : eqT ⟨(Q.rd_T23 l1 pre.length).f0, (Q.rd_T23 l1 pre.length).f1, (Q.rd_T23 l1 pre.length).f2⟩ ⟨x.f0, x.f1, x.f2⟩ = false := hq
          have hno : ¬ (pre ++ [x]) <+: l1 := fun hp => by
            have h1 := List.prefix_iff_eq_take.1 hp
            rw [List.length_append, List.length_singleton, htk, ← E1.out] at h1
            exact hx (by simpa using h1.symm)
          clear hrd htk hx
          gi_wp2
          gi_region_with_o (fail)
          all_goals gi_wp2
          all_goals (try go_bits)
          all_goals exact ⟨((KeepsOthers.setCell W ⟨w.heap.size + 1, 0, none⟩ (.bool false)).trans (KeepsOthers.drew _)).from _, ⟨b2.set (.bool false), hno, rfl⟩, (hB.setCell (p := ⟨w.heap.size + 1, 0, none⟩) (by simp) _).drew⟩
    case done =>
      rintro D ys W hD rfl ⟨⟨b1, b2, b3, e1, e2⟩, hB⟩ hK
      have cL := b1.cell
      have cN := b3.cell
      have cR := b2.cell
      have fR := b2.frozen
      have E1 := Aside0.mk e1
      have E2 := Aside0.mk e2
      clear e1 e2
      gi_wp2
      have hK' := (KeepsOthers.setCell W ⟨w.heap.size + 1, 0, none⟩ (.bool (((toks s 0).length : Int) == (l1.length : Int)))).same D _ hK rfl
      refine ⟨by simp, .inl ⟨_, _, rfl, run_takeDeferred hK', ?_⟩⟩
      have hc5 := cell_kept (b2.set (.bool (((toks s 0).length : Int) == (l1.length : Int)))).cell (grownBy_putObj' _ D (.deferred none)) (fun r e => by cases e; exact ⟨_, hK', rfl⟩)
      refine ⟨.bool (((toks s 0).length : Int) == (l1.length : Int)), ?_, ret_bool ?_, (hB.setCell (p := ⟨w.heap.size + 1, 0, none⟩) (by simp) _).trans (belowK_b (w := w) (Nat.le_refl _) _ D _ _ (by omega) hK' rfl rfl)⟩
      · simp [results, Tryd.f23, go_sem, hc5]
      · by_cases hl : (toks s 0).length = l1.length
        · have e : toks s 0 = l1 := by
            have h1 := E1.out
            rw [hl, List.take_length] at h1
            exact h1
          rw [(sameL_iff _ _).2 e]; simp [hl]
        · rw [sameL_no (fun e => hl (by rw [e]))]; simp; omega
    case stop =>
      rintro D c pre W hD hp ⟨⟨b2, hno, rfl⟩, hB⟩ hK
      gi_wp2
      refine ⟨by simp, .inl ⟨_, _, rfl, run_takeDeferred hK, ?_⟩⟩
      have hc5 := cell_kept b2.cell (grownBy_putObj' _ D (.deferred none)) (fun r e => by cases e; exact ⟨_, hK, rfl⟩)
      refine ⟨.bool false, ?_, ret_bool (sameL_no (fun e => hno (by rw [← e]; exact hp))).symm, hB.trans (belowK_b (w := w) (Nat.le_refl _) W D _ _ (by omega) hK rfl rfl)⟩
      simp [results, Tryd.f23, go_sem, hc5]
  · rw [if_neg hs] at h; cases h
end Go.Proofs.YtdnkjfcndjmdbaaDoor.G
