/- Two more events for a printed walk: make with a capacity of its own; copy of a row of structs into a row of the call's own that is no longer. -/
import Derived.Test.YtdnkjfcndjmdbaaDoorWWords
import Derived.Test.YtdnkjfcndjmdbaaDoorGs
import Derived.Laws.CopyOwn
namespace Go.Proofs.YtdnkjfcndjmdbaaDoor.G
open Go.RowKit Go.Proofs.YtdnkjfcndjmdbaaDoorW.PrintWords
section
variable {P : Program} {ops : Array Oper} {rest : List Oper} {o : Oper} {a : Act} {W : World} {Q : Exit → Act → World → Prop} {α : Type}
theorem made_take (z : Array Value) (n c size : Nat) (hnc : n ≤ c) : (madeCells z (c * size)).toList.take (n * size) = (madeCells z (n * size)).toList := by
  have hle : n * size ≤ c * size := Nat.mul_le_mul_right _ hnc
  apply List.ext_getElem
  · simp [size_madeCells, Nat.min_eq_left hnc]
  · intro i h1 h2
    simp [madeCells]
theorem R_make2 (d : Kd α) {w0 W : World} (base e : Nat) (hgd : o.guard = none) {N : Tmp} (_hd : o.dst = some N) (t : TypeId) (x y : Operand) (ho : o.op = .makeSlice t x y) (n cp : Int) (hx : a.eval x = .int .i64 n) (hy : a.eval y = .int .i64 cp)
    (ht : P.underlying t = some (.slice e)) (z : Value) (bytes : Nat) (hinfo : (P.info? e).map (fun i => (i.zero, i.size, i.bytes)) = some (some z, d.sz, bytes)) (hz : z.cells.size = d.sz) (hs0 : 0 < d.sz) (hb0 : 0 < bytes)
    (z0 : α) {ok okp : Nat → Prop} (hzero : d.M W base okp z0 z.cells.toList) (hok : ∀ k, okp k → ok k) (hfresh : ok W.heap.size) (h0 : 0 ≤ n) (hnc : n ≤ cp) (hl : cp.toNat * bytes ≤ 281474976710656) (HB : Below base w0 W) (hbase : base ≤ W.heap.size)
    (h : ∀ v1 w1, d.R e w1 base ok v1 (List.replicate n.toNat z0) → Below base w0 w1 → W.grownBy w1 none → (∃ b, v1.ownBlock = some b ∧ W.heap.size ≤ b) → wpList P ops Q rest (a.put o.dst v1) w1) : wpList P ops Q (o :: rest) a W := by
  obtain ⟨m, rfl⟩ := Int.eq_ofNat_of_zero_le h0
  obtain ⟨c, rfl⟩ := Int.eq_ofNat_of_zero_le (show 0 ≤ cp by omega)
  have hmc : m ≤ c := by omega
  simp only [Int.toNat_natCast] at hl h
  obtain ⟨i0, hi, hzz⟩ := Option.map_eq_some_iff.1 hinfo
  simp only [Prod.mk.injEq] at hzz
  obtain ⟨hz0, hz1, hz2⟩ := hzz
  have hm : c ≤ 281474976710656 := Nat.le_trans (Nat.le_mul_of_pos_right _ hb0) hl
  have hr := run_make (P := P) W t e i0 z ht hi hz0 .i64 .i64 (m : Int) (c : Int) (by omega) (by omega)
    (by
      have h3 : ((i0.bytes * c : Nat) : Int) ≤ 281474976710656 := by rw [hz2, Nat.mul_comm]; omega
      rwa [Int.natCast_mul] at h3) (by omega)
  simp only [Int.toNat_natCast] at hr
  rw [hz1] at hr
  have hrep : Reps (d.M W base okp) d.sz (List.replicate m z0) (madeCells z.cells (m * d.sz)).toList := Kd.reps_made hz hs0 hzero m
  refine Kd.event_run hgd (v := .slice (some ⟨W.heap.size, 0, none⟩) m c) (w1 := W.alloc (.cells (madeCells z.cells (c * d.sz)) e)) (by simp [execOp, ho, hx, hy, hr]) (h _ _ ⟨fun k hk => ?_, (madeCells z.cells (m * d.sz)).toList, ?_, ?_⟩ (HB.alloc hbase _) (World.grownBy_alloc W _ none) ⟨W.heap.size, by simp [Value.ownBlock], Nat.le_refl _⟩)
  · have : W.heap.size = k := by simpa [Value.ownBlock] using hk
    subst this
    exact hfresh
  · refine ⟨by simp [size_madeCells], .inr ⟨W.heap.size, c, madeCells z.cells (c * d.sz), by simp, hbase, heap_alloc_new W _, by simp; omega, by simp only [maxLen]; omega, by simp [size_madeCells], ?_⟩⟩
    rw [List.length_replicate]
    exact made_take z.cells m c d.sz hmc
  · refine hrep.imp_ (fun p c hp => d.M_mono (fun k hk => ⟨hok k hk.1, fun he => ?_⟩) (Kd.M_below (d.M_bound hp) (below_alloc (Below.refl _ _) _)))
    have h3 : k = W.heap.size := by simpa [Value.ownBlock] using he
    have := hk.2.2.1
    omega
theorem reps_take {Rr : α → List Value → Prop} {size : Nat} {ys : List α} {cs : List Value} (h : Reps Rr size ys cs) (n : Nat) (hn : n ≤ ys.length) : Reps Rr size (ys.take n) (cs.take (n * size)) := by
  refine ⟨?_, fun j p hj => ?_⟩
  · rw [List.length_take, List.length_take, h.1, Nat.min_eq_left hn, Nat.min_eq_left (Nat.mul_le_mul_right _ hn)]
  · have hjn : j < n := by
      rcases Nat.lt_or_ge j n with h | h
      · exact h
      · rw [List.getElem?_eq_none (by rw [List.length_take]; omega)] at hj; cases hj
    rw [List.getElem?_take, if_pos hjn] at hj
    have h1 := h.2 j p hj
    have hle : (j + 1) * size ≤ n * size := Nat.mul_le_mul_right _ hjn
    rw [Nat.add_mul, Nat.one_mul] at hle
    rw [List.drop_take, List.take_take, Nat.min_eq_left (by omega)]
    exact h1
/-- copy(v, ys), v a row of the call's own that is no longer than ys: it reads as ys' beginning then. -/
theorem R_copy_rows (d : Kd α) {Rr : α → List Value → Prop} {w0 W : World} (base : Nat) (hgd : o.guard = none) (s x : Operand) (t e : TypeId) (z : Value) (bytes : Nat)
    (ho : o.op = .call { callee := .builtin .copy, args := #[s, x], argTypes := #[t, t] })
    (ht : P.underlying t = some (.slice e)) (hinfo : (P.info? e).map (fun i => (i.zero, i.size, i.bytes)) = some (some z, d.sz, bytes)) (_hz : z.cells.size = d.sz) (hs0 : 0 < d.sz) (_hb0 : 0 < bytes)
    (v : Value) (xs ys : List α) (A : Option Addr) (m c : Nat) (ok okp : Nat → Prop) (hs : a.eval s = v) (hx : a.eval x = .slice A m c)
    (HO : d.R e W base ok v xs) (HR : ReadsRow Rr d.sz W A m ys) (hKM : ∀ x cs, Rr x cs → d.M W base okp x cs) (hokp : ∀ k, okp k → ok k ∧ some k ≠ v.ownBlock)
    (HB : Below base w0 W) (hbase : base ≤ W.heap.size) (hl : xs.length ≤ m)
    (h : ∀ v1 w1, v1 = v → d.R e w1 base ok v1 (ys.take xs.length) → Below base w0 w1 → W.grownBy w1 v.ownBlock → (v1.ownBlock = v.ownBlock ∨ ∃ b, v1.ownBlock = some b ∧ W.heap.size ≤ b) → wpList P ops Q rest (a.put o.dst (.int .i64 (xs.length : Nat))) w1) :
    wpList P ops Q (o :: rest) a W := by
  obtain ⟨i0, hi, hzz⟩ := Option.map_eq_some_iff.1 hinfo
  simp only [Prod.mk.injEq] at hzz
  obtain ⟨_, hz1, _⟩ := hzz
  have hm : ys.length = m := HR.1
  obtain ⟨hok, inner, hown, hr⟩ := HO
  have fin : ∀ w1, (Builtin.copy_ #[t, t] o.type #[v, .slice A m c]).run P W = .ok (goInt (xs.length : Nat)) w1 → d.R e w1 base ok v (ys.take xs.length) → W.grownBy w1 v.ownBlock → wpList P ops Q (o :: rest) a W := by
    intro w1 hr1 hrow hg
    refine wpList_plain hgd fun K hK => ?_
    unfold Oper.wp execOp
    simp only [ho, resolve, invoke, builtin, Sem.run_bind, Sem.run_pure, Result.andThen_ok, List.map_toArray, List.map_cons, List.map_nil, hs, hx, hr1]
    exact hK _ _ (h v w1 rfl hrow (HB.grown hg hbase (own_base hown)) hg (.inl rfl))
  have hmin : Nat.min m xs.length = xs.length := Nat.min_eq_right hl
  rcases Nat.eq_zero_or_pos xs.length with h0 | hp
  · have hx0 : xs = [] := List.eq_nil_of_length_eq_zero h0
    subst hx0
    refine fin W ?_ (by rw [List.length_nil, List.take_zero]; exact ⟨hok, inner, hown, hr⟩) (World.grownBy.refl W _)
    obtain ⟨A', c', hv⟩ := own_slice hown
    rw [hv]
    cases A with
    | none => cases A' <;> simp [Builtin.copy_, run_underlying ht, Builtin.lenOf, Builtin.firstCells, sizeOf, typeInfo, hi, storeCells]
    | some ad =>
      have hl0 := run_loadCells_list (P := P) W ad [] (fun j v hj => by simp at hj)
      simp only [List.length_nil] at hl0
      cases A' <;> simp [Builtin.copy_, run_underlying ht, Builtin.lenOf, Builtin.firstCells, sizeOf, typeInfo, hi, hl0, storeCells]
  · obtain ⟨ad, rfl, _⟩ := HR.2.2 (by omega)
    obtain ⟨news, hnr, hnc⟩ := ReadsRow.inner_ HR
    have hnM : Reps (d.M W base okp) d.sz ys news := hnr.imp_ (fun p c hp => hKM p c hp)
    have hone : ∀ u ∈ news, u.oneCell' = true := by
      intro u hu
      obtain ⟨q, hq, rfl⟩ := List.mem_iff_getElem.1 hu
      have hql : q / d.sz < ys.length := by
        rw [Nat.div_lt_iff_lt_mul hs0]
        rw [← hnM.1]
        exact hq
      have hc := hnM.2 (q / d.sz) _ (List.getElem?_eq_getElem hql)
      refine d.K_one (d.K_of_M hc) _ ?_
      rw [List.mem_iff_getElem?]
      refine ⟨q % d.sz, ?_⟩
      rw [List.getElem?_take, if_pos (Nat.mod_lt _ hs0), List.getElem?_drop, Nat.mul_comm, Nat.div_add_mod, List.getElem?_eq_getElem hq]
    rcases hown.2 with ⟨_, hn0⟩ | ⟨g, cap, cur, hv, hb, hh, hncap, hcm, hcs, htake⟩
    · omega
    have hle : xs.length * d.sz ≤ ys.length * d.sz := Nat.mul_le_mul_right _ (by omega)
    have hclen : (news.take (xs.length * d.sz)).length = xs.length * d.sz := by rw [List.length_take, hnM.1, Nat.min_eq_left hle]
    have hld := run_loadCells_list (P := P) W ad (news.take (xs.length * d.sz)) (fun j u hj => by
      have hjn : j < xs.length * d.sz := by
        rcases Nat.lt_or_ge j (xs.length * d.sz) with h | h
        · exact h
        · rw [List.getElem?_eq_none (by rw [hclen]; exact h)] at hj; cases hj
      rw [List.getElem?_take, if_pos hjn] at hj
      exact hnc j u hj)
    rw [hclen] at hld
    have hcap : xs.length * d.sz ≤ cap * d.sz := Nat.mul_le_mul_right _ hncap
    have hst := run_storeCells_at P g 0 e (news.take (xs.length * d.sz)) 0 cur W hh (by rw [hclen]; omega) (fun u hu => hone u (List.mem_of_mem_take hu))
    have hg : W.grownBy (W.setRow g ((cur.toList.take 0 ++ news.take (xs.length * d.sz) ++ cur.toList.drop (0 + (news.take (xs.length * d.sz)).length)).toArray)) v.ownBlock := by
      refine ⟨rfl, rfl, rfl, by simp [World.setRow], fun k _ hk => setRow_other W g k _ (fun e => hk (by rw [hv, e]; simp [Value.ownBlock]))⟩
    refine fin _ ?_ ⟨hok, news.take (xs.length * d.sz), ?_, ?_⟩ hg
    · rw [hv]
      simp only [Nat.add_zero, Nat.zero_add] at hst ⊢
      simp [Builtin.copy_, run_underlying ht, Builtin.lenOf, Builtin.firstCells, sizeOf, typeInfo, hi, hz1, hmin, hld, hst]
    · have hlt : (ys.take xs.length).length = xs.length := by rw [List.length_take]; omega
      rw [hlt]
      refine ⟨hclen, .inr ⟨g, cap, _, hv, hb, setRow_heap W g cur _ e _ hh, hncap, hcm, ?_, ?_⟩⟩
      · simp only [List.take_zero, List.nil_append, Nat.zero_add, List.size_toArray, List.length_append, List.length_drop, Array.length_toList]
        rw [hclen]; omega
      · simp only [List.take_zero, List.nil_append, Nat.zero_add]
        rw [List.take_append_of_le_length (by rw [hclen]; exact Nat.le_refl _), List.take_of_length_le (by rw [hclen]; exact Nat.le_refl _)]
    · refine (reps_take hnM xs.length (by omega)).imp_ (fun p c hp => ?_)
      have h1 := d.M_move (w1 := W.setRow g ((cur.toList.take 0 ++ news.take (xs.length * d.sz) ++ cur.toList.drop (0 + (news.take (xs.length * d.sz)).length)).toArray)) (fun k hk => hg.block k hk.2.2.1 (hokp k hk.1).2) (d.M_bound hp)
      exact d.M_mono (fun k hk => hokp k hk.1) h1
end
end Go.Proofs.YtdnkjfcndjmdbaaDoor.G
