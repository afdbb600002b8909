/-
  DERIVED. GIVEN WITH THE SEED: THE CARDS: each row of YtdnkjfcndjmdbaaDoorRows.lean that lists a variable, with what it lists TIED to the program's text (the seventh form; the later family's looks); each row that meets fmt, with fmt's text TOLD by the authors' own Lean function (tested against real Go, not proved from fmt's source: count such statements apart). THE CARD IS WHAT COUNTS. Prove the row's statement (the work); the ties are given (YtdnkjfcndjmdbaaDoorTie.lean); close each card by the builder's one call (the guide's Derived/Test/ToyasCard.lean, 'card_holds'). Laid BY PROGRAM, IN A SANDBOX (cutbox-door.mjs). By AI agents, Wed Nov 11 2026. No macro, syntax, notation, axiom, sorry.
-/
import Derived.Test.YtdnkjfcndjmdbaaDoorRows
import GoSem.ClaimSeven
namespace Go.Proofs.YtdnkjfcndjmdbaaDoor
namespace Rows

/-- THE TIED CARD OF 'glossatorlaw11.DfaScans'. -/
def dfaScansCard : Claim7 := { stood := { row := dfaScansRow, standIns := [], harness := (true, "d734891b97da8bd6b49e2ada3c77613b509dcedb7f966a458cd83bb9b328da1c"), looks := false }, kinds := [], alts := [], laidByText := true, laidKinds := [.data, .pinned], laidTests := true, laidLooks := .later }
def DfaScansCardSaid : Prop := Claim7.holds Tryd.pinned (.plain (OpenSpec.ofChange dfaScansSpec)) dfaScansCard

/-- THE TIED CARD OF 'glossatorlaw11.DfaLongest'. -/
def dfaLongestCard : Claim7 := { stood := { row := dfaLongestRow, standIns := [], harness := (true, "d734891b97da8bd6b49e2ada3c77613b509dcedb7f966a458cd83bb9b328da1c"), looks := false }, kinds := [], alts := [], laidByText := true, laidKinds := [.data, .pinned], laidTests := true, laidLooks := .later }
def DfaLongestCardSaid : Prop := Claim7.holds Tryd.pinned (.plain (OpenSpec.ofChange dfaLongestSpec)) dfaLongestCard

/-- THE TIED CARD OF 'glossatorlaw11.DfaLooks'. -/
def dfaLooksCard : Claim7 := { stood := { row := dfaLooksRow, standIns := [], harness := (true, "d734891b97da8bd6b49e2ada3c77613b509dcedb7f966a458cd83bb9b328da1c"), looks := false }, kinds := [], alts := [], laidByText := true, laidKinds := [.data, .pinned], laidTests := true, laidLooks := .later }
def DfaLooksCardSaid : Prop := Claim7.holds Tryd.pinned (.plain (OpenSpec.ofChange dfaLooksSpec)) dfaLooksCard

/-- THE TIED CARD OF 'glossatorlaw11.DfaAll'. -/
def dfaAllCard : Claim7 := { stood := { row := dfaAllRow, standIns := [], harness := (true, "d734891b97da8bd6b49e2ada3c77613b509dcedb7f966a458cd83bb9b328da1c"), looks := false }, kinds := [], alts := [], laidByText := true, laidKinds := [.data, .pinned], laidTests := true, laidLooks := .later }
def DfaAllCardSaid : Prop := Claim7.holds Tryd.pinned (.plain (OpenSpec.ofChange dfaAllSpec)) dfaAllCard

/-- THE TIED CARD OF 'glossatorlaw12.LexAll'. -/
def lexAllCard : Claim7 := { stood := { row := lexAllRow, standIns := [], harness := (true, "d734891b97da8bd6b49e2ada3c77613b509dcedb7f966a458cd83bb9b328da1c"), looks := false }, kinds := [], alts := [], laidByText := true, laidKinds := [.data, .pinned], laidTests := true, laidLooks := .later }
def LexAllCardSaid : Prop := Claim7.holds Tryd.pinned (.plain (OpenSpec.ofChange lexAllSpec)) lexAllCard

/-- THE TIED CARD OF 'glossatorlaw13.RelexUpdates'. -/
def relexUpdatesCard : Claim7 := { stood := { row := relexUpdatesRow, standIns := [], harness := (true, "d734891b97da8bd6b49e2ada3c77613b509dcedb7f966a458cd83bb9b328da1c"), looks := false }, kinds := [], alts := [], laidByText := true, laidKinds := [.data, .pinned], laidTests := true, laidLooks := .later }
def RelexUpdatesCardSaid : Prop := Claim7.holds Tryd.pinned (.plain (OpenSpec.ofChange relexUpdatesSpec)) relexUpdatesCard

/-- THE TIED CARD OF 'glossatorlaw12.LexWhole'. -/
def lexWholeCard : Claim7 := { stood := { row := lexWholeRow, standIns := [], harness := (true, "d734891b97da8bd6b49e2ada3c77613b509dcedb7f966a458cd83bb9b328da1c"), looks := false }, kinds := [], alts := [], laidByText := true, laidKinds := [.data, .pinned], laidTests := true, laidLooks := .later }
def LexWholeCardSaid : Prop := Claim7.holds Tryd.pinned (.plain (OpenSpec.ofChange lexWholeSpec)) lexWholeCard

/-- THE TIED CARD OF 'glossatorlaw12.LexLooks'. -/
def lexLooksCard : Claim7 := { stood := { row := lexLooksRow, standIns := [], harness := (true, "d734891b97da8bd6b49e2ada3c77613b509dcedb7f966a458cd83bb9b328da1c"), looks := false }, kinds := [], alts := [], laidByText := true, laidKinds := [.data, .pinned], laidTests := true, laidLooks := .later }
def LexLooksCardSaid : Prop := Claim7.holds Tryd.pinned (.plain (OpenSpec.ofChange lexLooksSpec)) lexLooksCard

/-- THE TIED CARD OF 'glossatorlaw12.LexRest'. -/
def lexRestCard : Claim7 := { stood := { row := lexRestRow, standIns := [], harness := (true, "d734891b97da8bd6b49e2ada3c77613b509dcedb7f966a458cd83bb9b328da1c"), looks := false }, kinds := [], alts := [], laidByText := true, laidKinds := [.data, .pinned], laidTests := true, laidLooks := .later }
def LexRestCardSaid : Prop := Claim7.holds Tryd.pinned (.plain (OpenSpec.ofChange lexRestSpec)) lexRestCard

/-- THE TIED CARD OF 'glossatorlaw13.RelexKeeps'. -/
def relexKeepsCard : Claim7 := { stood := { row := relexKeepsRow, standIns := [], harness := (true, "d734891b97da8bd6b49e2ada3c77613b509dcedb7f966a458cd83bb9b328da1c"), looks := false }, kinds := [], alts := [], laidByText := true, laidKinds := [.data, .pinned], laidTests := true, laidLooks := .later }
def RelexKeepsCardSaid : Prop := Claim7.holds Tryd.pinned (.plain (OpenSpec.ofChange relexKeepsSpec)) relexKeepsCard

/-- THE TIED CARD OF 'glossatorlaw13.RelexTwice'. -/
def relexTwiceCard : Claim7 := { stood := { row := relexTwiceRow, standIns := [], harness := (true, "d734891b97da8bd6b49e2ada3c77613b509dcedb7f966a458cd83bb9b328da1c"), looks := false }, kinds := [], alts := [], laidByText := true, laidKinds := [.data, .pinned], laidTests := true, laidLooks := .later }
def RelexTwiceCardSaid : Prop := Claim7.holds Tryd.pinned (.plain (OpenSpec.ofChange relexTwiceSpec)) relexTwiceCard

/-- THE SECOND FORM's CARD OF 'glossatorlaw11.DfaScans'. -/
def dfaScansUptoCard : Claim7 := { stood := { row := dfaScansUptoRow, standIns := [], harness := (true, "d734891b97da8bd6b49e2ada3c77613b509dcedb7f966a458cd83bb9b328da1c"), looks := false }, kinds := [], alts := [], laidByText := true, laidKinds := [.data, .pinned], laidTests := true, laidLooks := .later }
def DfaScansUptoCardSaid : Prop := Claim7.holds Tryd.pinned (.plain (OpenSpec.upto dfaScansSpec)) dfaScansUptoCard

/-- THE SECOND FORM's CARD OF 'glossatorlaw11.DfaLongest'. -/
def dfaLongestUptoCard : Claim7 := { stood := { row := dfaLongestUptoRow, standIns := [], harness := (true, "d734891b97da8bd6b49e2ada3c77613b509dcedb7f966a458cd83bb9b328da1c"), looks := false }, kinds := [], alts := [], laidByText := true, laidKinds := [.data, .pinned], laidTests := true, laidLooks := .later }
def DfaLongestUptoCardSaid : Prop := Claim7.holds Tryd.pinned (.plain (OpenSpec.upto dfaLongestSpec)) dfaLongestUptoCard

/-- THE SECOND FORM's CARD OF 'glossatorlaw11.DfaLooks'. -/
def dfaLooksUptoCard : Claim7 := { stood := { row := dfaLooksUptoRow, standIns := [], harness := (true, "d734891b97da8bd6b49e2ada3c77613b509dcedb7f966a458cd83bb9b328da1c"), looks := false }, kinds := [], alts := [], laidByText := true, laidKinds := [.data, .pinned], laidTests := true, laidLooks := .later }
def DfaLooksUptoCardSaid : Prop := Claim7.holds Tryd.pinned (.plain (OpenSpec.upto dfaLooksSpec)) dfaLooksUptoCard

/-- THE SECOND FORM's CARD OF 'glossatorlaw11.DfaAll'. -/
def dfaAllUptoCard : Claim7 := { stood := { row := dfaAllUptoRow, standIns := [], harness := (true, "d734891b97da8bd6b49e2ada3c77613b509dcedb7f966a458cd83bb9b328da1c"), looks := false }, kinds := [], alts := [], laidByText := true, laidKinds := [.data, .pinned], laidTests := true, laidLooks := .later }
def DfaAllUptoCardSaid : Prop := Claim7.holds Tryd.pinned (.plain (OpenSpec.upto dfaAllSpec)) dfaAllUptoCard

/-- THE SECOND FORM's CARD OF 'glossatorlaw12.LexAll'. -/
def lexAllUptoCard : Claim7 := { stood := { row := lexAllUptoRow, standIns := [], harness := (true, "d734891b97da8bd6b49e2ada3c77613b509dcedb7f966a458cd83bb9b328da1c"), looks := false }, kinds := [], alts := [], laidByText := true, laidKinds := [.data, .pinned], laidTests := true, laidLooks := .later }
def LexAllUptoCardSaid : Prop := Claim7.holds Tryd.pinned (.plain (OpenSpec.upto lexAllSpec)) lexAllUptoCard

/-- THE SECOND FORM's CARD OF 'glossatorlaw13.RelexUpdates'. -/
def relexUpdatesUptoCard : Claim7 := { stood := { row := relexUpdatesUptoRow, standIns := [], harness := (true, "d734891b97da8bd6b49e2ada3c77613b509dcedb7f966a458cd83bb9b328da1c"), looks := false }, kinds := [], alts := [], laidByText := true, laidKinds := [.data, .pinned], laidTests := true, laidLooks := .later }
def RelexUpdatesUptoCardSaid : Prop := Claim7.holds Tryd.pinned (.plain (OpenSpec.upto relexUpdatesSpec)) relexUpdatesUptoCard

/-- THE SECOND FORM's CARD OF 'glossatorlaw12.LexWhole'. -/
def lexWholeUptoCard : Claim7 := { stood := { row := lexWholeUptoRow, standIns := [], harness := (true, "d734891b97da8bd6b49e2ada3c77613b509dcedb7f966a458cd83bb9b328da1c"), looks := false }, kinds := [], alts := [], laidByText := true, laidKinds := [.data, .pinned], laidTests := true, laidLooks := .later }
def LexWholeUptoCardSaid : Prop := Claim7.holds Tryd.pinned (.plain (OpenSpec.upto lexWholeSpec)) lexWholeUptoCard

/-- THE SECOND FORM's CARD OF 'glossatorlaw12.LexLooks'. -/
def lexLooksUptoCard : Claim7 := { stood := { row := lexLooksUptoRow, standIns := [], harness := (true, "d734891b97da8bd6b49e2ada3c77613b509dcedb7f966a458cd83bb9b328da1c"), looks := false }, kinds := [], alts := [], laidByText := true, laidKinds := [.data, .pinned], laidTests := true, laidLooks := .later }
def LexLooksUptoCardSaid : Prop := Claim7.holds Tryd.pinned (.plain (OpenSpec.upto lexLooksSpec)) lexLooksUptoCard

/-- THE SECOND FORM's CARD OF 'glossatorlaw12.LexRest'. -/
def lexRestUptoCard : Claim7 := { stood := { row := lexRestUptoRow, standIns := [], harness := (true, "d734891b97da8bd6b49e2ada3c77613b509dcedb7f966a458cd83bb9b328da1c"), looks := false }, kinds := [], alts := [], laidByText := true, laidKinds := [.data, .pinned], laidTests := true, laidLooks := .later }
def LexRestUptoCardSaid : Prop := Claim7.holds Tryd.pinned (.plain (OpenSpec.upto lexRestSpec)) lexRestUptoCard

/-- THE SECOND FORM's CARD OF 'glossatorlaw13.RelexKeeps'. -/
def relexKeepsUptoCard : Claim7 := { stood := { row := relexKeepsUptoRow, standIns := [], harness := (true, "d734891b97da8bd6b49e2ada3c77613b509dcedb7f966a458cd83bb9b328da1c"), looks := false }, kinds := [], alts := [], laidByText := true, laidKinds := [.data, .pinned], laidTests := true, laidLooks := .later }
def RelexKeepsUptoCardSaid : Prop := Claim7.holds Tryd.pinned (.plain (OpenSpec.upto relexKeepsSpec)) relexKeepsUptoCard

/-- THE SECOND FORM's CARD OF 'glossatorlaw13.RelexTwice'. -/
def relexTwiceUptoCard : Claim7 := { stood := { row := relexTwiceUptoRow, standIns := [], harness := (true, "d734891b97da8bd6b49e2ada3c77613b509dcedb7f966a458cd83bb9b328da1c"), looks := false }, kinds := [], alts := [], laidByText := true, laidKinds := [.data, .pinned], laidTests := true, laidLooks := .later }
def RelexTwiceUptoCardSaid : Prop := Claim7.holds Tryd.pinned (.plain (OpenSpec.upto relexTwiceSpec)) relexTwiceUptoCard
end Rows
end Go.Proofs.YtdnkjfcndjmdbaaDoor
