/- The library's decoder, taken over; the scanner's Word, walked. -/
import Derived.Test.YtdnkjfcndjmdbaaDoorGa
namespace Go.Proofs.YtdnkjfcndjmdbaaDoor.G
open Go.RowKit Go.Proofs.YtdnkjfcndjmdbaaDoorW.PrintWords Go.Proofs.YtdnkjfcndjmdbaaDoorW.PrintLast Go.Proofs.YtdnkjfcndjmdbaaDoorW.PrintMore

/-- The library's tables stand as its text lays them; bytealg's MaxLen is some number. -/
def Tabs (w : World) : Prop := Lib.Utf8Tabs 0 1 w ∧ ∃ m, w.cell? ⟨2, 0, none⟩ = some (.int .i64 m)
theorem tabs_below {w w' : World} (h : Tabs w) (hb : Below w.heap.size w w') : Tabs w' := by
  obtain ⟨⟨h1, h2⟩, m, h3⟩ := h
  have hs : ∀ {a : Addr} {v : Value}, w.cell? a = some v → w'.cell? a = some v := fun hc => pw_cell_below hb hc
  exact ⟨⟨fun c hc => hs (h1 c hc), fun i hi => ⟨hs (h2 i hi).1, hs (h2 i hi).2⟩⟩, m, hs h3⟩

def utf8_DecodeRuneInString.f (a0 : ByteArray) : Option (Int × Int) := some ((Lib.decodeGo a0).1, (Lib.decodeGo a0).2)
theorem utf8_DecodeRuneInString.calls (a0 : ByteArray) (r1 r2 : Int) (w : World) (h : utf8_DecodeRuneInString.f a0 = some (r1, r2)) (hT : Tabs w) :
    Calls Tryd.prog 31 #[.string a0] w fun e w' => e = .returned (.tuple #[.int .i32 r1, .int .i64 r2]) ∧ Below w.heap.size w w' := by
  obtain ⟨rfl, rfl⟩ := Prod.mk.inj (Option.some.inj h)
  exact Tryd.utf8_DecodeRuneInString a0 w hT.1

def okAt (s : ByteArray) (i : Nat) : Bool := decide (cls (bt s i) = 3 ∨ (cls (bt s i) = 4 ∧ i ≠ 0))
def wordsL : List UInt8 := [32, 108, 101, 116, 32, 102, 110, 32, 105, 102, 32, 101, 108, 115, 101, 32, 119, 104, 105, 108, 101, 32, 114, 101, 116, 117, 114, 110, 32, 116, 114, 117, 101, 32, 102, 97, 108, 115, 101, 32]
def wordIx (s : ByteArray) : Int := Lib.index wordsL (32 :: (s.data.toList ++ [32]))
theorem index_le : ∀ s sub : List UInt8, Lib.index s sub ≤ s.length
  | [], sub => by unfold Lib.index; split <;> decide
  | b :: l, sub => by
    have ih := index_le l sub
    unfold Lib.index
    split
    · simp; omega
    · split
      · simp; omega
      · simp; omega
theorem wordIx_range (s : ByteArray) : -1 ≤ wordIx s ∧ wordIx s ≤ 40 := ⟨Lib.index_ge _ _, index_le _ _⟩
def wordF (s : ByteArray) : Int :=
  if ∀ i, i < s.size → okAt s i = true then
    if s.size = 0 then 0 else if 0 ≤ wordIx s then (10 : Int) + (((wordsL.take (wordIx s).toNat).count 32 : Nat) : Int) else 6
  else 0
def dfa_Word.f (a0 : ByteArray) : Option Int := if a0.size ≤ 4611686018427387000 then some (wordF a0) else none
theorem cls_wrap (s : ByteArray) (k : Nat) : wrap32 (bt s k) = bt s k := by
  have := bt_range s k
  unfold wrap32; omega

set_option maxHeartbeats 2000000 in
set_option maxRecDepth 100000 in
theorem dfa_Word.calls (a0 : ByteArray) (r : Int) (w : World) (h : dfa_Word.f a0 = some r) (hT : Tabs w) :
    Calls Tryd.prog 16 #[.string a0] w fun e w' => e = .returned (.int .u8 r) ∧ Below w.heap.size w w' := by
  have hs : a0.size ≤ 4611686018427387000 := by unfold dfa_Word.f at h; split at h <;> simp_all
  obtain rfl : wordF a0 = r := by unfold dfa_Word.f at h; rw [if_pos hs] at h; exact Option.some.inj h
  clear h
  have HT := Aside0.mk hT
  clear hT
  go_enter Tryd.func16, Tryd.ntmps16
  go_wp2
  go_loopw [8] (fun i wr => ∃ k : Nat, k ≤ a0.size ∧ i = .int .i64 k ∧ Aside0 (∀ j : Nat, j < k → okAt a0 j = true) ∧ Aside0 (Drawn0 w wr)) (fun i _ => a0.size - (intOf i).toNat)
  case atStart => exact ⟨0, by omega, rfl, ⟨fun j hj => by omega⟩, ⟨Drawn0.refl _⟩⟩
  case round =>
    obtain ⟨k, hk, rfl, HA, HD⟩ := hrel
    by_cases hlt : k < a0.size
    · have hb : Aside0 (∀ h : k < a0.size, ((a0[k]'h).toNat : Int) = bt a0 k) := ⟨fun h => by simp [bt, h]⟩
      go_wp2_with fail
      rw [show wrap32 ((a0[k]'hlt).toNat : Int) = bt a0 k from (by rw [hb.out hlt]; exact cls_wrap a0 k)]
      refine (dfa_Class.calls _ _ _ rfl).mono ?_
      rintro e w1 ⟨rfl, hd1⟩
      have HD1 := Aside0.mk (show Drawn0 w w1 from (by obtain ⟨m1, rfl⟩ := HD.out; obtain ⟨m2, rfl⟩ := hd1; exact ⟨⟨_, World.drewN_drewN ..⟩⟩))
      clear hd1
      by_cases hok : okAt a0 k = true
      · have HC : Aside0 (∀ j : Nat, j < k + 1 → okAt a0 j = true) := ⟨fun j hj => if e : j = k then e ▸ hok else HA.out j (by omega)⟩
        have c3 : cls (bt a0 k) = 3 ∨ (cls (bt a0 k) = 4 ∧ k ≠ 0) := of_decide_eq_true hok
        rcases c3 with c3 | ⟨c3, c4⟩
        · rw [c3]
          clear c3
          go_wp2
          go_roundw
          case rel => exact ⟨k + 1, by omega, by go_num, HC, HD1⟩
          case measure => simp [intOf]; omega
        · rw [c3]
          clear c3
          have c5 : ((k : Int) == 0) = false := beq_eq_false_iff_ne.2 (by omega)
          go_wp2
          go_roundw
          case rel => exact ⟨k + 1, by omega, by go_num, HC, HD1⟩
          case measure => simp [intOf]; omega
      · have HN : Aside0 (wordF a0 = 0) := ⟨by unfold wordF; rw [if_neg (fun h => hok (h k hlt))]⟩
        have c3 : ¬ (cls (bt a0 k) = 3 ∨ (cls (bt a0 k) = 4 ∧ k ≠ 0)) := fun h => hok (decide_eq_true h)
        have HC : Aside0 (¬ (cls (bt a0 k) = 3 ∨ (cls (bt a0 k) = 4 ∧ k ≠ 0))) := ⟨c3⟩
        clear c3
        go_wp2
        all_goals first
          | (go_ret; exact ⟨ret_int HN.out.symm, HD1.out.below⟩)
          | (exfalso; refine HC.out ?_; simp only [beq_eq_false_iff_ne, ne_eq] at *; omega)
    · obtain rfl : k = a0.size := by omega
      obtain ⟨mm, hm⟩ := (tabs_below HT.out HD.out.below).2
      have HM := Aside0.mk hm
      clear hm
      go_wp2_with fail
      · go_ret
        refine ⟨ret_int ?_, HD.out.below⟩
        have e : a0.size = 0 := by
          have h1 := ‹a0.toList.isEmpty = true›
          rw [List.isEmpty_iff] at h1
          rw [Lib.toList_data] at h1
          have h2 := congrArg List.length h1
          simpa using h2
        unfold wordF
        rw [if_pos HA.out, if_pos e]
      · refine (Tryd.strings_Index _ _ mm _ (by decide) (by exact HM.out)).mono ?_
        rintro e w1 ⟨rfl, rfl⟩
        rw [show Lib.index (⟨#[32, 108, 101, 116, 32, 102, 110, 32, 105, 102, 32, 101, 108, 115, 101, 32, 119, 104, 105, 108, 101, 32, 114, 101, 116, 117, 114, 110, 32, 116, 114, 117, 101, 32, 102, 97, 108, 115, 101, 32]⟩ : ByteArray).data.toList (⟨#[32]⟩ ++ a0 ++ ⟨#[32]⟩ : ByteArray).data.toList = wordIx a0 from (by simp [wordIx, wordsL, ByteArray.data_append])]
        have hr := wordIx_range a0
        have HF : Aside0 (wordF a0 = if 0 ≤ wordIx a0 then (10 : Int) + (((wordsL.take (wordIx a0).toNat).count 32 : Nat) : Int) else 6) := ⟨by
          have hne : ¬ a0.size = 0 := by
            intro e
            have h1 := ‹a0.toList.isEmpty = false›
            rw [Lib.toList_data] at h1
            have h2 : a0.data.toList.length = 0 := by simpa using e
            rw [List.eq_nil_of_length_eq_zero h2] at h1
            exact absurd h1 (by decide)
          unfold wordF
          rw [if_pos HA.out, if_neg hne]⟩
        generalize hix : wordIx a0 = ix at hr HF ⊢
        clear hix
        obtain ⟨hr1, hr2⟩ := hr
        by_cases h0 : 0 ≤ ix
        · obtain ⟨n, rfl⟩ := Int.eq_ofNat_of_zero_le h0
          have h3 : (n : Int) ≤ 40 := hr2
          go_wp2_with fail
          refine (Tryd.strings_Count_one _ 32 _).mono ?_
          rintro e w2 ⟨rfl, rfl⟩
          rw [show Lib.countByte ((⟨#[32, 108, 101, 116, 32, 102, 110, 32, 105, 102, 32, 101, 108, 115, 101, 32, 119, 104, 105, 108, 101, 32, 114, 101, 116, 117, 114, 110, 32, 116, 114, 117, 101, 32, 102, 97, 108, 115, 101, 32]⟩ : ByteArray).extract 0 n).data.toList 32 = (wordsL.take n).count 32 from (by rw [Lib.extract_data]; simp [Lib.countByte, wordsL])]
          have hc : (wordsL.take n).count 32 ≤ 40 := Nat.le_trans List.count_le_length (by simp; omega)
          have HE : Aside0 (wordF a0 = 10 + (((wordsL.take n).count 32 : Nat) : Int)) := ⟨by rw [HF.out, if_pos h0]; rfl⟩
          generalize (wordsL.take n).count 32 = c at hc HE ⊢
          go_wp2
          go_ret
          exact ⟨ret_int HE.out.symm, HD.out.below⟩
        · have h3 : decide (0 ≤ ix) = false := decide_eq_false h0
          go_wp2_with fail
          go_ret
          exact ⟨ret_int (by rw [HF.out, if_neg (by omega)]), HD.out.below⟩
end Go.Proofs.YtdnkjfcndjmdbaaDoor.G
