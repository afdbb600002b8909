/- The statement glossator/glossatorlaw13.RelexTwice: its row over the walk and its plain law, and the card that ties the listed variables to the program's text. No condition. -/
import Derived.Test.YtdnkjfcndjmdbaaDoorRows
import Derived.Test.YtdnkjfcndjmdbaaDoorCards
import Derived.Test.YtdnkjfcndjmdbaaDoorTie
import Derived.Test.YtdnkjfcndjmdbaaDoorRw
import Derived.Test.YtdnkjfcndjmdbaaDoorGy
namespace Go.Proofs.YtdnkjfcndjmdbaaDoor.relexTwice
open Go.ChangeShapes Go.WideShapes Go.ChangeAt Go.RowKit Go.Joins
open Go.ChangeMaps (open_string shut_string)
set_option linter.unusedVariables false
theorem own : ownKnob Tryd.prog.godebug = none := by kernel_rfl
set_option maxRecDepth 100000 in
theorem lifted (os : Os) (started : os.Started) (H : Type) (enc : TypeId × Value → H) :
    ReturnsInHanded {} Tryd.checked os 13 .any (fun w args => (Rows.relexTwiceSpec.pre enc Tryd.prog Tryd.f13 Rows.relexTwiceRow.domain false w args ∧ laidMetH Tryd.prog Rows.relexTwiceRow.laid w) ∧ sizedMet enc Tryd.prog Tryd.f13 (OpenSpec.ofChange Rows.relexTwiceSpec) false w args)
      (Rows.relexTwiceSpec.post enc Tryd.prog Tryd.f13 false true false false) := by
  refine G.change_and_shaped (C := Tryd.checked) (X := fun w _ => laidMetH Tryd.prog Rows.relexTwiceRow.laid w) (fun _ _ _ hh h => h.of_heap hh) own started (by kernel_rfl) Tryd.func13
    (ChangeSpec.witness_shaped (enc := enc) (C := Tryd.checked) (os := os) (X := fun w _ => laidMetH Tryd.prog Rows.relexTwiceRow.laid w) false (World.laidAll Tryd.prog os Rows.relexTwiceRow.laid) #[.string ByteArray.empty, .agg #[.int .i64 0, .int .i64 0, .string ByteArray.empty], .agg #[.int .i64 0, .int .i64 0, .string ByteArray.empty]] 8 (World.laidAll_os _ _ _)
      (World.shaped_of_ZipB (by kernel_rfl) (by kernel_rfl)) (by kernel_rfl) (by kernel_rfl) (by kernel_rfl)
      (by rw [MakeChecks.laidMetH_plain _ _ _ (by kernel_rfl)]; exact laidMet_laidAll _ (by kernel_rfl) (by kernel_rfl))) ?_
  intro W base args ds gs before hval0 hW hcnd hsz0 hL hsh _
  have hT : G.Tabs W := G.tabs_of_laid hL hsh
  have hsz : (DataW.weightsEach Tryd.prog (Tryd.f13.params.toList ++ Rows.relexTwiceSpec.plain.varTypes Tryd.prog) (ds ++ gs)).all (· ≤ reachBytes) = true := hsz0
  have hval : ∀ (j : Nat) t v, Tryd.f13.params[j]? = some t → args[j]? = some v → Value.okWide Tryd.prog W .any base t v := hval0
  have hW' := hW
  obtain ⟨p, q, hA0, hV, rfl, hfz, hnd⟩ := hW
  have hA : DataW.TrodAll enc Tryd.prog W 0 (fun _ => true) true Tryd.f13.params.toList args.toList ds p := hA0
  rw [Tryd.params13] at hA hval hsz
  obtain ⟨v0, vs0, d0, ds0, p0, q0, hargs, rfl, rfl, h0, r0⟩ := trodAll_cons hA
  obtain ⟨v1, vs1, d1, ds1, p1, q1, rfl, rfl, rfl, h1, r1⟩ := trodAll_cons r0
  obtain ⟨v2, vs2, d2, ds2, p2, q2, rfl, rfl, rfl, h2, r2⟩ := trodAll_cons r1
  obtain ⟨rfl, rfl, rfl⟩ := trodAll_nil r2
  obtain rfl : args = #[v0, v1, v2] := by cases args; simp_all
  obtain ⟨rfl, rfl⟩ := trodVars_none hV
  obtain ⟨a0, rfl, rfl, rfl, y0⟩ := open_string Tryd.underlying9 (hval 0 9 v0 rfl rfl) h0
  have w0 : a0.size ≤ 140737488351232 := by
    have z := sized_string hsz (j := 0) (t := 9) rfl rfl
    rw [Array.length_toList] at z
    exact z
  obtain ⟨c1_0, c1_1, c1_2, e1_0, e1_1, e1_2, m1, rfl, rfl, rfl, g1_0, g1_1, g1_2⟩ := open_agg3 Tryd.underlying37 (by kernel_rfl) (by kernel_rfl) (hval 1 37 v1 rfl rfl) h1
  obtain ⟨a1_0, x1_0, rfl, w1_0⟩ := DataW.trod_int Tryd.underlying3 g1_0
  obtain ⟨a1_1, x1_1, rfl, w1_1⟩ := DataW.trod_int Tryd.underlying3 g1_1
  obtain ⟨a1_2, x1_2, rfl, w1_2⟩ := DataW.trod_string Tryd.underlying9 g1_2
  simp at x1_0 x1_1 x1_2
  subst x1_0 x1_1 x1_2
  obtain ⟨c2_0, c2_1, c2_2, e2_0, e2_1, e2_2, m2, rfl, rfl, rfl, g2_0, g2_1, g2_2⟩ := open_agg3 Tryd.underlying37 (by kernel_rfl) (by kernel_rfl) (hval 2 37 v2 rfl rfl) h2
  obtain ⟨a2_0, x2_0, rfl, w2_0⟩ := DataW.trod_int Tryd.underlying3 g2_0
  obtain ⟨a2_1, x2_1, rfl, w2_1⟩ := DataW.trod_int Tryd.underlying3 g2_1
  obtain ⟨a2_2, x2_2, rfl, w2_2⟩ := DataW.trod_string Tryd.underlying9 g2_2
  simp at x2_0 x2_1 x2_2
  subst x2_0 x2_1 x2_2
  clear hA0 hval0 hsz0 hsz
  refine (G.glossatorlaw13_RelexTwice.walk a0 a1_0 a1_1 a1_2 a2_0 a2_1 a2_2 W w0 hT).mono fun e W' ⟨he, bel⟩ => ?_
  subst he
  exact ⟨_, rfl, _, _, _, [], _, [], hW', trodAll_mk1 (shut_bool Tryd.underlying4 _), (trodAll_cons_mk (shut_string Tryd.underlying9 y0) (trodAll_cons_mk (shut_agg3 Tryd.underlying37 (by kernel_rfl) (by kernel_rfl) ⟨_, trod_int_mk 0 Tryd.underlying3 w1_0⟩ ⟨_, trod_int_mk 0 Tryd.underlying3 w1_1⟩ (Go.Deep.shut_string_cell Tryd.underlying9 w1_2)) (trodAll_cons_mk (shut_agg3 Tryd.underlying37 (by kernel_rfl) (by kernel_rfl) ⟨_, trod_int_mk 0 Tryd.underlying3 w2_0⟩ ⟨_, trod_int_mk 0 Tryd.underlying3 w2_1⟩ (Go.Deep.shut_string_cell Tryd.underlying9 w2_2)) trodAll_mk0))), rfl, bel.frame _, fun h => by cases h⟩
theorem over : Rows.RelexTwiceSaid :=
  OpenClaim.holds_of_wide 13 Tryd.f13 rfl rfl rfl rfl rfl rfl rfl ⟨rfl, rfl, rfl, rfl, rfl⟩ rfl rfl rfl rfl rfl (by kernel_rfl) Tryd.func13 (by kernel_rfl)
    (of_decide_eq_true (by kernel_rfl)) (by unfold Func.isWrapper; first | (rw [if_pos (by decide +kernel)]; kernel_rfl) | (rw [if_neg (by decide +kernel)]; exact ⟨rfl, rfl⟩))
    (fun os started H enc _ => lifted os started H enc)
theorem card_holds : Rows.RelexTwiceCardSaid :=
  Claim7.holds_tied_plain_at .later [] [.data, .pinned] true (true, "d734891b97da8bd6b49e2ada3c77613b509dcedb7f966a458cd83bb9b328da1c") false over (fun _ h => by cases h) (by kernel_rfl) (fun _ h => by cases h) relexTwice_row_tie rfl ⟨rfl, rfl⟩ (by kernel_rfl) rfl
    (fun f fn hf hfn => by
      obtain rfl : f = 13 := Option.some.inj ((show Tryd.prog.funcNamed "glossator/glossatorlaw13.RelexTwice" = some 13 by kernel_rfl).symm.trans hf) |>.symm
      obtain rfl : fn = Tryd.f13 := (Option.some.inj (Tryd.func13.symm.trans hfn)).symm
      exact ⟨by kernel_rfl, fun j t ht => by
        rw [Tryd.params13] at ht
        have hm : t ∈ [9, 37, 37] := by simpa using Array.mem_of_getElem? ht
        have hall : ([9, 37, 37].all fun u => !Tryd.prog.wantsStandIn u) = true := by kernel_rfl
        exact (show Tryd.prog.wantsStandIn t = false by simpa using List.all_eq_true.1 hall t hm)⟩)
    (by kernel_rfl)
end Go.Proofs.YtdnkjfcndjmdbaaDoor.relexTwice
namespace Go.Proofs.YtdnkjfcndjmdbaaDoor
/-- The card, under a short name, for the claim. -/
theorem relexTwice_card : Rows.RelexTwiceCardSaid := relexTwice.card_holds
end Go.Proofs.YtdnkjfcndjmdbaaDoor
