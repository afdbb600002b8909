/- The walk of LexAll, with its plain law; a list of tokens that is handed in, opened. -/
import Derived.Test.YtdnkjfcndjmdbaaDoorPv
import Derived.Test.YtdnkjfcndjmdbaaDoorRw
import Derived.Deep.Strs
namespace Go.Proofs.YtdnkjfcndjmdbaaDoor.G
open Go.RowKit Go.Proofs.YtdnkjfcndjmdbaaDoorW.PrintWords
open Q (S23 k23)
theorem glossatorlaw12_LexAll.walk (a0 : ByteArray) (A1 : Option Addr) (c1 : Nat) (l1 : List S23) (w : World) (_w0 : a0.size ≤ 140737488351232) (hr1 : Kd.C k23 w A1 l1.length l1) (hc1 : l1.length ≤ c1) (hT : Tabs w) :
    Calls Tryd.prog 7 #[.string a0, .slice A1 l1.length c1] w fun e w' => e = .returned (.bool true) ∧ Below w.heap.size w w' := by
  obtain ⟨k, h⟩ := Ev.rounds (P.lexAll_ev a0 l1)
  exact Q.glossatorlaw12_LexAll.calls k a0 A1 c1 l1 true w hr1 hc1 h hT
end Go.Proofs.YtdnkjfcndjmdbaaDoor.G

namespace Go.Proofs.YtdnkjfcndjmdbaaDoor.G
open Go.RowKit Go.ChangeShapes Go.WideShapes Go.Deep Go.Proofs.YtdnkjfcndjmdbaaDoorW.PrintWords
open Q (S23 k23)
theorem cells23 : Tryd.prog.cellsOf 23 = 3 ∧ Tryd.prog.cellsOf 5 = 1 ∧ Tryd.prog.cellsOf 3 = 1 := ⟨by kernel_rfl, by kernel_rfl, by kernel_rfl⟩
set_option maxRecDepth 100000 in
theorem tok_open {H : Type} {enc : TypeId × Value → H} {W : World} {b0 n : Nat} {spare : Nat → Bool} {held : Bool} {a : Addr} {cs : List Value} {x : DataW H × List MemPlace}
    (h1 : W.cells? b0 a 3 = some cs) (h2 : DataW.trod enc Tryd.prog W b0 spare held n 23 cs = some x) :
    ∃ y : S23, W.cell? a = some (.int .u8 y.f0) ∧ W.cell? (a.add 1) = some (.int .i64 y.f1) ∧ W.cell? (a.add 2) = some (.int .i64 y.f2) := by
  obtain ⟨_, hlen, hcell⟩ := World.cells?_some h1
  obtain ⟨y0, y1, y2, k, _, _, g0, g1, g2⟩ := trod_struct3 Tryd.underlying23 h2
  match cs, hlen with
  | [v0, v1, v2], _ =>
    have e0 := hcell 0 (by omega)
    have e1 := hcell 1 (by omega)
    have e2 := hcell 2 (by omega)
    simp [cells23.2.1, cells23.2.2] at g0 g1 g2
    obtain ⟨a0, z0, _, _⟩ := DataW.trod_int Tryd.underlying5 g0
    obtain ⟨a1, z1, _, _⟩ := DataW.trod_int Tryd.underlying3 g1
    obtain ⟨a2, z2, _, _⟩ := DataW.trod_int Tryd.underlying3 g2
    simp at z0 z1 z2
    subst z0 z1 z2
    exact ⟨⟨a0, a1, a2⟩, by simpa [Addr.add] using e0, by simpa using e1, by simpa using e2⟩
set_option maxRecDepth 100000 in
theorem toks_open {H : Type} {enc : TypeId × Value → H} {W : World} {b0 b1 : Nat} {r : Reach} {spare : Nat → Bool} {held : Bool} {v : Value} {d : DataW H} {p : List MemPlace}
    (hv : Value.okWide Tryd.prog W r b1 32 v) (h : DataW.Trod enc Tryd.prog W b0 spare held 32 v d p) :
    ∃ (A : Option Addr) (c : Nat) (l : List S23), v = .slice A l.length c ∧ Kd.C k23 W A l.length l ∧ l.length ≤ c := by
  obtain ⟨A, len, cap, rfl⟩ := okWide_slice Tryd.underlying32 hv
  obtain ⟨fuel, hf⟩ := h
  rcases open_slice Tryd.underlying32 hf with ⟨e, _⟩ | ⟨a, ln, cp, m, n, D, Pl, e, hb, hl, hm, hmm, _, hx⟩
  · simp [Value.cells] at e
    obtain ⟨rfl, rfl, rfl⟩ := e
    exact ⟨none, 0, [], rfl, ⟨rfl, by simp, fun h => by simp at h⟩, Nat.le_refl _⟩
  · simp [Value.cells] at e
    obtain ⟨rfl, rfl, rfl⟩ := e
    have hlm : len ≤ m := by rw [hmm]; split <;> omega
    have each : ∀ i, i < len → ∃ y : S23, W.cell? (a.add (i * 3)) = some (.int .u8 y.f0) ∧ W.cell? ((a.add (i * 3)).add 1) = some (.int .i64 y.f1) ∧ W.cell? ((a.add (i * 3)).add 2) = some (.int .i64 y.f2) := by
      intro i hi
      obtain ⟨cs, h1, h2⟩ := hx i (by omega)
      rw [cells23.1] at h1
      exact tok_open h1 h2
    obtain ⟨q, hq⟩ : ∃ q : Nat → S23, ∀ i, i < len → W.cell? (a.add (i * 3)) = some (.int .u8 (q i).f0) ∧ W.cell? ((a.add (i * 3)).add 1) = some (.int .i64 (q i).f1) ∧ W.cell? ((a.add (i * 3)).add 2) = some (.int .i64 (q i).f2) := by
      classical
      refine ⟨fun i => if h : i < len then Classical.choose (each i h) else Q.z23, fun i hi => ?_⟩
      simp only [dif_pos hi]
      exact Classical.choose_spec (each i hi)
    have hll : ((List.range len).map q).length = len := by simp
    refine ⟨some a, cap, (List.range len).map q, by rw [hll], ⟨rfl, ?_, fun _ => ⟨a, rfl, fun j y hj => ⟨[.int .u8 y.f0, .int .i64 y.f1, .int .i64 y.f2], rfl, Q.k23_mk W y, fun i u hu => ?_⟩⟩⟩, by rw [hll]; exact hl⟩
    · rw [hll]; simp only [maxLen] at hm; omega
    · have hj2 : j < len := by
        rcases Nat.lt_or_ge j len with h | h
        · exact h
        · rw [List.getElem?_eq_none (by rw [hll]; exact h)] at hj; cases hj
      rw [List.getElem?_map, List.getElem?_range hj2] at hj
      simp at hj
      subst hj
      obtain ⟨h0, h1, h2⟩ := hq j hj2
      show W.cell? (a.add (j * 3 + i)) = some u
      have ea : ∀ k, (a.add (j * 3)).add k = a.add (j * 3 + k) := fun k => Go.Deep.add_add _ _ _
      match i, hu with
      | 0, hu => simp at hu; subst hu; exact h0
      | 1, hu => simp at hu; subst hu; rw [← ea]; exact h1
      | 2, hu => simp at hu; subst hu; rw [← ea]; exact h2
      | i + 3, hu => simp at hu
end Go.Proofs.YtdnkjfcndjmdbaaDoor.G
