/-
  NARROWER THAN 'FOR EVERY INPUT', by the rows' own cells (each row's printed sentence says how): DfaScans: laid · DfaLongest: laid · DfaLooks: laid · DfaAll: laid · LexAll: laid · RelexUpdates: laid · LexWhole: laid · LexLooks: laid · LexRest: laid · RelexKeeps: laid · RelexTwice: laid.
  DERIVED. THE GIVEN ROWS OF THIS SEAT. 11 by the template 'for every input the law returns true; each argument reads behind the call as it read before'; 0 by the template 'total and deterministic' (their statements: YtdnkjfcndjmdbaaDoorTotals.lean).
  GIVEN WITH THE SEED: the statements are not yours to turn. If you find one false, say at which input.
  Laid BY PROGRAM, IN A SANDBOX (cutbox-rows.mjs): the forced cells as the released guide's own fill.sh prints them over the translation fd962524bb78d23f… (all of the seat's roots in one cut). By AI agents, Wed Nov 11 2026. No macro, syntax, notation, axiom, sorry.
-/
import Derived.Test.YtdnkjfcndjmdbaaDoorChecked
import GoSem.PinnedTables
import GoSem.Claim
import GoSem.ClaimJoined
import GoSem.ClaimMapViews
import Derived.JoinedTies
import Derived.KernelRfl
namespace Go.Proofs.YtdnkjfcndjmdbaaDoor
/- THE CELL 'sum', in the pinned program and in every row, IS THE sha256 OF THE DUMP (.gsa) THAT YtdnkjfcndjmdbaaDoorProg.lean LOADS. Nothing in Lean hashes anything: it is a label: what it is worth is what the hold of that sum in a sandbox is worth. -/
noncomputable def Tryd.pinned : Pinned := { name := "ytdnkjfcndjmdbaadoor", sum := "fd962524bb78d23f47bfc84c3fc6b0a6d9fe483b0ed617f49ca39e8fa1a4deb5", checked := Tryd.checked }
namespace Rows
def none {H : Type} : Left H := { results := [], args := [] }

/- WHAT THE LISTED PACKAGE-LEVEL VARIABLES READ AS WHEN THE CALL BEGINS. Each datum BY PROGRAM (the guide's laid-datum.mjs) off the statement by which the dump's own 'gosem.cut.vars' lays the variable. In a bare row this is a premise. The card (YtdnkjfcndjmdbaaDoorCards.lean) ties it to the program's text. -/
def laid_unicode_utf8_acceptRanges {H : Type} : DataW H := .agg [.agg [.lit (.int .u8 128), .lit (.int .u8 191)], .agg [.lit (.int .u8 160), .lit (.int .u8 191)], .agg [.lit (.int .u8 128), .lit (.int .u8 159)], .agg [.lit (.int .u8 144), .lit (.int .u8 191)], .agg [.lit (.int .u8 128), .lit (.int .u8 143)], .agg [.lit (.int .u8 0), .lit (.int .u8 0)], .agg [.lit (.int .u8 0), .lit (.int .u8 0)], .agg [.lit (.int .u8 0), .lit (.int .u8 0)], .agg [.lit (.int .u8 0), .lit (.int .u8 0)], .agg [.lit (.int .u8 0), .lit (.int .u8 0)], .agg [.lit (.int .u8 0), .lit (.int .u8 0)], .agg [.lit (.int .u8 0), .lit (.int .u8 0)], .agg [.lit (.int .u8 0), .lit (.int .u8 0)], .agg [.lit (.int .u8 0), .lit (.int .u8 0)], .agg [.lit (.int .u8 0), .lit (.int .u8 0)], .agg [.lit (.int .u8 0), .lit (.int .u8 0)]]
/-- One of Go's own tables, pinned by name: the form's constant. -/
def laid_unicode_utf8_first : DataW Unit := Go.Pinned.utf8First

/-- 'glossatorlaw11.DfaScans': WHATEVER THE INPUT: true; the input reads as it did. -/
def dfaScansSpec : ChangeSpec := { name := "dfaScans", fn := fun _ => fun
  | [d1, d2] => { results := [.lit (.bool true)], args := [d1, d2] }
  | _ => none }
def dfaScansRow : OpenClaim := { program := "ytdnkjfcndjmdbaadoor", sum := "fd962524bb78d23f47bfc84c3fc6b0a6d9fe483b0ed617f49ca39e8fa1a4deb5", func := "glossator/glossatorlaw11.DfaScans", spec := "dfaScans", inPlace := ["internal/bytealg.IndexByteString", "internal/bytealg.IndexString", "internal/bytealg.CountString"], named := ["unicode/utf8.first", "unicode/utf8.acceptRanges", "internal/bytealg.MaxLen"], apart := false, laid := [("unicode/utf8.acceptRanges", laid_unicode_utf8_acceptRanges), ("unicode/utf8.first", laid_unicode_utf8_first)] }
def DfaScansSaid : Prop := dfaScansRow.holds Tryd.pinned (OpenSpec.ofChange dfaScansSpec)

/-- ITS FALSE NEIGHBOUR: 'it returns false'. Refute it at one input. -/
def dfaScansWrong : ChangeSpec := { name := "dfaScans", fn := fun _ => fun
  | [d1, d2] => { results := [.lit (.bool false)], args := [d1, d2] }
  | _ => none }
def DfaScansWrongFalsely : Prop := dfaScansRow.holds Tryd.pinned (OpenSpec.ofChange dfaScansWrong)

/-- 'glossatorlaw11.DfaLongest': WHATEVER THE INPUT: true; the input reads as it did. -/
def dfaLongestSpec : ChangeSpec := { name := "dfaLongest", fn := fun _ => fun
  | [d1, d2] => { results := [.lit (.bool true)], args := [d1, d2] }
  | _ => none }
def dfaLongestRow : OpenClaim := { program := "ytdnkjfcndjmdbaadoor", sum := "fd962524bb78d23f47bfc84c3fc6b0a6d9fe483b0ed617f49ca39e8fa1a4deb5", func := "glossator/glossatorlaw11.DfaLongest", spec := "dfaLongest", inPlace := ["internal/bytealg.IndexByteString", "internal/bytealg.IndexString", "internal/bytealg.CountString"], named := ["unicode/utf8.first", "unicode/utf8.acceptRanges", "internal/bytealg.MaxLen"], apart := false, laid := [("unicode/utf8.acceptRanges", laid_unicode_utf8_acceptRanges), ("unicode/utf8.first", laid_unicode_utf8_first)] }
def DfaLongestSaid : Prop := dfaLongestRow.holds Tryd.pinned (OpenSpec.ofChange dfaLongestSpec)

/-- ITS FALSE NEIGHBOUR: 'it returns false'. Refute it at one input. -/
def dfaLongestWrong : ChangeSpec := { name := "dfaLongest", fn := fun _ => fun
  | [d1, d2] => { results := [.lit (.bool false)], args := [d1, d2] }
  | _ => none }
def DfaLongestWrongFalsely : Prop := dfaLongestRow.holds Tryd.pinned (OpenSpec.ofChange dfaLongestWrong)

/-- 'glossatorlaw11.DfaLooks': WHATEVER THE INPUT: true; the input reads as it did. -/
def dfaLooksSpec : ChangeSpec := { name := "dfaLooks", fn := fun _ => fun
  | [d1, d2, d3] => { results := [.lit (.bool true)], args := [d1, d2, d3] }
  | _ => none }
def dfaLooksRow : OpenClaim := { program := "ytdnkjfcndjmdbaadoor", sum := "fd962524bb78d23f47bfc84c3fc6b0a6d9fe483b0ed617f49ca39e8fa1a4deb5", func := "glossator/glossatorlaw11.DfaLooks", spec := "dfaLooks", inPlace := ["internal/bytealg.IndexByteString", "internal/bytealg.IndexString", "internal/bytealg.CountString"], named := ["unicode/utf8.first", "unicode/utf8.acceptRanges", "internal/bytealg.MaxLen"], apart := false, laid := [("unicode/utf8.acceptRanges", laid_unicode_utf8_acceptRanges), ("unicode/utf8.first", laid_unicode_utf8_first)] }
def DfaLooksSaid : Prop := dfaLooksRow.holds Tryd.pinned (OpenSpec.ofChange dfaLooksSpec)

/-- ITS FALSE NEIGHBOUR: 'it returns false'. Refute it at one input. -/
def dfaLooksWrong : ChangeSpec := { name := "dfaLooks", fn := fun _ => fun
  | [d1, d2, d3] => { results := [.lit (.bool false)], args := [d1, d2, d3] }
  | _ => none }
def DfaLooksWrongFalsely : Prop := dfaLooksRow.holds Tryd.pinned (OpenSpec.ofChange dfaLooksWrong)

/-- 'glossatorlaw11.DfaAll': WHATEVER THE INPUT: true; the input reads as it did. -/
def dfaAllSpec : ChangeSpec := { name := "dfaAll", fn := fun _ => fun
  | [d] => { results := [.lit (.bool true)], args := [d] }
  | _ => none }
def dfaAllRow : OpenClaim := { program := "ytdnkjfcndjmdbaadoor", sum := "fd962524bb78d23f47bfc84c3fc6b0a6d9fe483b0ed617f49ca39e8fa1a4deb5", func := "glossator/glossatorlaw11.DfaAll", spec := "dfaAll", inPlace := ["internal/bytealg.IndexByteString", "internal/bytealg.IndexString", "internal/bytealg.CountString"], named := ["unicode/utf8.first", "unicode/utf8.acceptRanges", "internal/bytealg.MaxLen"], apart := false, laid := [("unicode/utf8.acceptRanges", laid_unicode_utf8_acceptRanges), ("unicode/utf8.first", laid_unicode_utf8_first)] }
def DfaAllSaid : Prop := dfaAllRow.holds Tryd.pinned (OpenSpec.ofChange dfaAllSpec)

/-- ITS FALSE NEIGHBOUR: 'it returns false'. Refute it at one input. -/
def dfaAllWrong : ChangeSpec := { name := "dfaAll", fn := fun _ => fun
  | [d] => { results := [.lit (.bool false)], args := [d] }
  | _ => none }
def DfaAllWrongFalsely : Prop := dfaAllRow.holds Tryd.pinned (OpenSpec.ofChange dfaAllWrong)

/-- 'glossatorlaw12.LexAll': WHATEVER THE INPUT: true; the input reads as it did. -/
def lexAllSpec : ChangeSpec := { name := "lexAll", fn := fun _ => fun
  | [d1, d2] => { results := [.lit (.bool true)], args := [d1, d2] }
  | _ => none }
def lexAllRow : OpenClaim := { program := "ytdnkjfcndjmdbaadoor", sum := "fd962524bb78d23f47bfc84c3fc6b0a6d9fe483b0ed617f49ca39e8fa1a4deb5", func := "glossator/glossatorlaw12.LexAll", spec := "lexAll", inPlace := ["internal/bytealg.IndexByteString", "internal/bytealg.IndexString", "internal/bytealg.CountString"], unfollowed := true, recurses := true, named := ["unicode/utf8.first", "unicode/utf8.acceptRanges", "internal/bytealg.MaxLen"], apart := false, laid := [("unicode/utf8.acceptRanges", laid_unicode_utf8_acceptRanges), ("unicode/utf8.first", laid_unicode_utf8_first)] }
def LexAllSaid : Prop := lexAllRow.holds Tryd.pinned (OpenSpec.ofChange lexAllSpec)

/-- ITS FALSE NEIGHBOUR: 'it returns false'. Refute it at one input. -/
def lexAllWrong : ChangeSpec := { name := "lexAll", fn := fun _ => fun
  | [d1, d2] => { results := [.lit (.bool false)], args := [d1, d2] }
  | _ => none }
def LexAllWrongFalsely : Prop := lexAllRow.holds Tryd.pinned (OpenSpec.ofChange lexAllWrong)

/-- 'glossatorlaw13.RelexUpdates': WHATEVER THE INPUT: true; the input reads as it did. -/
def relexUpdatesSpec : ChangeSpec := { name := "relexUpdates", fn := fun _ => fun
  | [d1, d2] => { results := [.lit (.bool true)], args := [d1, d2] }
  | _ => none }
def relexUpdatesRow : OpenClaim := { program := "ytdnkjfcndjmdbaadoor", sum := "fd962524bb78d23f47bfc84c3fc6b0a6d9fe483b0ed617f49ca39e8fa1a4deb5", func := "glossator/glossatorlaw13.RelexUpdates", spec := "relexUpdates", inPlace := ["internal/bytealg.IndexByteString", "internal/bytealg.IndexString", "internal/bytealg.CountString"], named := ["unicode/utf8.first", "unicode/utf8.acceptRanges", "internal/bytealg.MaxLen"], apart := false, laid := [("unicode/utf8.acceptRanges", laid_unicode_utf8_acceptRanges), ("unicode/utf8.first", laid_unicode_utf8_first)] }
def RelexUpdatesSaid : Prop := relexUpdatesRow.holds Tryd.pinned (OpenSpec.ofChange relexUpdatesSpec)

/-- ITS FALSE NEIGHBOUR: 'it returns false'. Refute it at one input. -/
def relexUpdatesWrong : ChangeSpec := { name := "relexUpdates", fn := fun _ => fun
  | [d1, d2] => { results := [.lit (.bool false)], args := [d1, d2] }
  | _ => none }
def RelexUpdatesWrongFalsely : Prop := relexUpdatesRow.holds Tryd.pinned (OpenSpec.ofChange relexUpdatesWrong)

/-- 'glossatorlaw12.LexWhole': WHATEVER THE INPUT: true; the input reads as it did. -/
def lexWholeSpec : ChangeSpec := { name := "lexWhole", fn := fun _ => fun
  | [d] => { results := [.lit (.bool true)], args := [d] }
  | _ => none }
def lexWholeRow : OpenClaim := { program := "ytdnkjfcndjmdbaadoor", sum := "fd962524bb78d23f47bfc84c3fc6b0a6d9fe483b0ed617f49ca39e8fa1a4deb5", func := "glossator/glossatorlaw12.LexWhole", spec := "lexWhole", inPlace := ["internal/bytealg.IndexByteString", "internal/bytealg.IndexString", "internal/bytealg.CountString"], unfollowed := true, recurses := true, named := ["unicode/utf8.first", "unicode/utf8.acceptRanges", "internal/bytealg.MaxLen"], apart := false, laid := [("unicode/utf8.acceptRanges", laid_unicode_utf8_acceptRanges), ("unicode/utf8.first", laid_unicode_utf8_first)] }
def LexWholeSaid : Prop := lexWholeRow.holds Tryd.pinned (OpenSpec.ofChange lexWholeSpec)

/-- ITS FALSE NEIGHBOUR: 'it returns false'. Refute it at one input. -/
def lexWholeWrong : ChangeSpec := { name := "lexWhole", fn := fun _ => fun
  | [d] => { results := [.lit (.bool false)], args := [d] }
  | _ => none }
def LexWholeWrongFalsely : Prop := lexWholeRow.holds Tryd.pinned (OpenSpec.ofChange lexWholeWrong)

/-- 'glossatorlaw12.LexLooks': WHATEVER THE INPUT: true; the input reads as it did. -/
def lexLooksSpec : ChangeSpec := { name := "lexLooks", fn := fun _ => fun
  | [d1, d2, d3] => { results := [.lit (.bool true)], args := [d1, d2, d3] }
  | _ => none }
def lexLooksRow : OpenClaim := { program := "ytdnkjfcndjmdbaadoor", sum := "fd962524bb78d23f47bfc84c3fc6b0a6d9fe483b0ed617f49ca39e8fa1a4deb5", func := "glossator/glossatorlaw12.LexLooks", spec := "lexLooks", inPlace := ["internal/bytealg.IndexByteString", "internal/bytealg.IndexString", "internal/bytealg.CountString"], unfollowed := true, recurses := true, named := ["unicode/utf8.first", "unicode/utf8.acceptRanges", "internal/bytealg.MaxLen"], apart := false, laid := [("unicode/utf8.acceptRanges", laid_unicode_utf8_acceptRanges), ("unicode/utf8.first", laid_unicode_utf8_first)] }
def LexLooksSaid : Prop := lexLooksRow.holds Tryd.pinned (OpenSpec.ofChange lexLooksSpec)

/-- ITS FALSE NEIGHBOUR: 'it returns false'. Refute it at one input. -/
def lexLooksWrong : ChangeSpec := { name := "lexLooks", fn := fun _ => fun
  | [d1, d2, d3] => { results := [.lit (.bool false)], args := [d1, d2, d3] }
  | _ => none }
def LexLooksWrongFalsely : Prop := lexLooksRow.holds Tryd.pinned (OpenSpec.ofChange lexLooksWrong)

/-- 'glossatorlaw12.LexRest': WHATEVER THE INPUT: true; the input reads as it did. -/
def lexRestSpec : ChangeSpec := { name := "lexRest", fn := fun _ => fun
  | [d1, d2] => { results := [.lit (.bool true)], args := [d1, d2] }
  | _ => none }
def lexRestRow : OpenClaim := { program := "ytdnkjfcndjmdbaadoor", sum := "fd962524bb78d23f47bfc84c3fc6b0a6d9fe483b0ed617f49ca39e8fa1a4deb5", func := "glossator/glossatorlaw12.LexRest", spec := "lexRest", inPlace := ["internal/bytealg.IndexByteString", "internal/bytealg.IndexString", "internal/bytealg.CountString"], unfollowed := true, recurses := true, named := ["unicode/utf8.first", "unicode/utf8.acceptRanges", "internal/bytealg.MaxLen"], apart := false, laid := [("unicode/utf8.acceptRanges", laid_unicode_utf8_acceptRanges), ("unicode/utf8.first", laid_unicode_utf8_first)] }
def LexRestSaid : Prop := lexRestRow.holds Tryd.pinned (OpenSpec.ofChange lexRestSpec)

/-- ITS FALSE NEIGHBOUR: 'it returns false'. Refute it at one input. -/
def lexRestWrong : ChangeSpec := { name := "lexRest", fn := fun _ => fun
  | [d1, d2] => { results := [.lit (.bool false)], args := [d1, d2] }
  | _ => none }
def LexRestWrongFalsely : Prop := lexRestRow.holds Tryd.pinned (OpenSpec.ofChange lexRestWrong)

/-- 'glossatorlaw13.RelexKeeps': WHATEVER THE INPUT: true; the input reads as it did. -/
def relexKeepsSpec : ChangeSpec := { name := "relexKeeps", fn := fun _ => fun
  | [d1, d2] => { results := [.lit (.bool true)], args := [d1, d2] }
  | _ => none }
def relexKeepsRow : OpenClaim := { program := "ytdnkjfcndjmdbaadoor", sum := "fd962524bb78d23f47bfc84c3fc6b0a6d9fe483b0ed617f49ca39e8fa1a4deb5", func := "glossator/glossatorlaw13.RelexKeeps", spec := "relexKeeps", inPlace := ["internal/bytealg.IndexByteString", "internal/bytealg.IndexString", "internal/bytealg.CountString"], unfollowed := true, recurses := true, named := ["unicode/utf8.first", "unicode/utf8.acceptRanges", "internal/bytealg.MaxLen"], apart := false, laid := [("unicode/utf8.acceptRanges", laid_unicode_utf8_acceptRanges), ("unicode/utf8.first", laid_unicode_utf8_first)] }
def RelexKeepsSaid : Prop := relexKeepsRow.holds Tryd.pinned (OpenSpec.ofChange relexKeepsSpec)

/-- ITS FALSE NEIGHBOUR: 'it returns false'. Refute it at one input. -/
def relexKeepsWrong : ChangeSpec := { name := "relexKeeps", fn := fun _ => fun
  | [d1, d2] => { results := [.lit (.bool false)], args := [d1, d2] }
  | _ => none }
def RelexKeepsWrongFalsely : Prop := relexKeepsRow.holds Tryd.pinned (OpenSpec.ofChange relexKeepsWrong)

/-- 'glossatorlaw13.RelexTwice': WHATEVER THE INPUT: true; the input reads as it did. -/
def relexTwiceSpec : ChangeSpec := { name := "relexTwice", fn := fun _ => fun
  | [d1, d2, d3] => { results := [.lit (.bool true)], args := [d1, d2, d3] }
  | _ => none }
def relexTwiceRow : OpenClaim := { program := "ytdnkjfcndjmdbaadoor", sum := "fd962524bb78d23f47bfc84c3fc6b0a6d9fe483b0ed617f49ca39e8fa1a4deb5", func := "glossator/glossatorlaw13.RelexTwice", spec := "relexTwice", inPlace := ["internal/bytealg.IndexByteString", "internal/bytealg.IndexString", "internal/bytealg.CountString"], unfollowed := true, recurses := true, named := ["unicode/utf8.first", "unicode/utf8.acceptRanges", "internal/bytealg.MaxLen"], apart := false, laid := [("unicode/utf8.acceptRanges", laid_unicode_utf8_acceptRanges), ("unicode/utf8.first", laid_unicode_utf8_first)] }
def RelexTwiceSaid : Prop := relexTwiceRow.holds Tryd.pinned (OpenSpec.ofChange relexTwiceSpec)

/-- ITS FALSE NEIGHBOUR: 'it returns false'. Refute it at one input. -/
def relexTwiceWrong : ChangeSpec := { name := "relexTwice", fn := fun _ => fun
  | [d1, d2, d3] => { results := [.lit (.bool false)], args := [d1, d2, d3] }
  | _ => none }
def RelexTwiceWrongFalsely : Prop := relexTwiceRow.holds Tryd.pinned (OpenSpec.ofChange relexTwiceWrong)

/- THE SECOND FORM. 'bulk': how many values and letters a reading holds, each counted each time it is reached (what is shared counts as often as it is met; a slice's spare places count too). A statement '..UptoSaid' is the law's where the arguments, and the package variables that the reading takes, are together of bulk at most 1048576: NARROWER than '..Said'. Prove '..Said' where nothing that the law and all that it calls make is longer than what came in: it says more and counts as full. Else prove '..UptoSaid'. A law counts once. -/
mutual
def uptoBulk {H : Type} : DataW H → Nat
  | .lit (.string bytes) => bytes.length + 1
  | .lit _ => 1
  | .nil => 1
  | .ptr d => uptoBulk d + 1
  | .slice elems spare => uptoBulkAll elems + uptoBulkAll spare + 1
  | .agg parts => uptoBulkAll parts + 1
  | .iface _ d => uptoBulk d + 1
  | .map entries => uptoBulkEntries entries + 1
  | .held _ => 1
def uptoBulkAll {H : Type} : List (DataW H) → Nat
  | [] => 0
  | d :: r => uptoBulk d + uptoBulkAll r
def uptoBulkEntries {H : Type} : List (Lit × DataW H) → Nat
  | [] => 0
  | x :: r => uptoBulkEntry x + uptoBulkEntries r
def uptoBulkEntry {H : Type} : Lit × DataW H → Nat
  | (.string bytes, d) => bytes.length + uptoBulk d + 1
  | (_, d) => uptoBulk d + 1
 end
def uptoSmall : (H : Type) → List (DataW H) → Bool := fun _ ds => decide (uptoBulkAll ds ≤ 1048576)
def OpenSpec.upto (s : _root_.Go.ChangeSpec) : _root_.Go.OpenSpec := { _root_.Go.OpenSpec.ofChange s with cond := some uptoSmall }

/-- 'glossatorlaw11.DfaScans', WHERE WHAT IT READS IS OF BULK AT MOST 1048576: true; the input reads as it did. -/
def dfaScansUptoRow : OpenClaim := { program := "ytdnkjfcndjmdbaadoor", sum := "fd962524bb78d23f47bfc84c3fc6b0a6d9fe483b0ed617f49ca39e8fa1a4deb5", func := "glossator/glossatorlaw11.DfaScans", spec := "dfaScans", inPlace := ["internal/bytealg.IndexByteString", "internal/bytealg.IndexString", "internal/bytealg.CountString"], named := ["unicode/utf8.first", "unicode/utf8.acceptRanges", "internal/bytealg.MaxLen"], apart := false, laid := [("unicode/utf8.acceptRanges", laid_unicode_utf8_acceptRanges), ("unicode/utf8.first", laid_unicode_utf8_first)], narrowed := true }
def DfaScansUptoSaid : Prop := dfaScansUptoRow.holds Tryd.pinned (OpenSpec.upto dfaScansSpec)

/-- 'glossatorlaw11.DfaLongest', WHERE WHAT IT READS IS OF BULK AT MOST 1048576: true; the input reads as it did. -/
def dfaLongestUptoRow : OpenClaim := { program := "ytdnkjfcndjmdbaadoor", sum := "fd962524bb78d23f47bfc84c3fc6b0a6d9fe483b0ed617f49ca39e8fa1a4deb5", func := "glossator/glossatorlaw11.DfaLongest", spec := "dfaLongest", inPlace := ["internal/bytealg.IndexByteString", "internal/bytealg.IndexString", "internal/bytealg.CountString"], named := ["unicode/utf8.first", "unicode/utf8.acceptRanges", "internal/bytealg.MaxLen"], apart := false, laid := [("unicode/utf8.acceptRanges", laid_unicode_utf8_acceptRanges), ("unicode/utf8.first", laid_unicode_utf8_first)], narrowed := true }
def DfaLongestUptoSaid : Prop := dfaLongestUptoRow.holds Tryd.pinned (OpenSpec.upto dfaLongestSpec)

/-- 'glossatorlaw11.DfaLooks', WHERE WHAT IT READS IS OF BULK AT MOST 1048576: true; the input reads as it did. -/
def dfaLooksUptoRow : OpenClaim := { program := "ytdnkjfcndjmdbaadoor", sum := "fd962524bb78d23f47bfc84c3fc6b0a6d9fe483b0ed617f49ca39e8fa1a4deb5", func := "glossator/glossatorlaw11.DfaLooks", spec := "dfaLooks", inPlace := ["internal/bytealg.IndexByteString", "internal/bytealg.IndexString", "internal/bytealg.CountString"], named := ["unicode/utf8.first", "unicode/utf8.acceptRanges", "internal/bytealg.MaxLen"], apart := false, laid := [("unicode/utf8.acceptRanges", laid_unicode_utf8_acceptRanges), ("unicode/utf8.first", laid_unicode_utf8_first)], narrowed := true }
def DfaLooksUptoSaid : Prop := dfaLooksUptoRow.holds Tryd.pinned (OpenSpec.upto dfaLooksSpec)

/-- 'glossatorlaw11.DfaAll', WHERE WHAT IT READS IS OF BULK AT MOST 1048576: true; the input reads as it did. -/
def dfaAllUptoRow : OpenClaim := { program := "ytdnkjfcndjmdbaadoor", sum := "fd962524bb78d23f47bfc84c3fc6b0a6d9fe483b0ed617f49ca39e8fa1a4deb5", func := "glossator/glossatorlaw11.DfaAll", spec := "dfaAll", inPlace := ["internal/bytealg.IndexByteString", "internal/bytealg.IndexString", "internal/bytealg.CountString"], named := ["unicode/utf8.first", "unicode/utf8.acceptRanges", "internal/bytealg.MaxLen"], apart := false, laid := [("unicode/utf8.acceptRanges", laid_unicode_utf8_acceptRanges), ("unicode/utf8.first", laid_unicode_utf8_first)], narrowed := true }
def DfaAllUptoSaid : Prop := dfaAllUptoRow.holds Tryd.pinned (OpenSpec.upto dfaAllSpec)

/-- 'glossatorlaw12.LexAll', WHERE WHAT IT READS IS OF BULK AT MOST 1048576: true; the input reads as it did. -/
def lexAllUptoRow : OpenClaim := { program := "ytdnkjfcndjmdbaadoor", sum := "fd962524bb78d23f47bfc84c3fc6b0a6d9fe483b0ed617f49ca39e8fa1a4deb5", func := "glossator/glossatorlaw12.LexAll", spec := "lexAll", inPlace := ["internal/bytealg.IndexByteString", "internal/bytealg.IndexString", "internal/bytealg.CountString"], unfollowed := true, recurses := true, named := ["unicode/utf8.first", "unicode/utf8.acceptRanges", "internal/bytealg.MaxLen"], apart := false, laid := [("unicode/utf8.acceptRanges", laid_unicode_utf8_acceptRanges), ("unicode/utf8.first", laid_unicode_utf8_first)], narrowed := true }
def LexAllUptoSaid : Prop := lexAllUptoRow.holds Tryd.pinned (OpenSpec.upto lexAllSpec)

/-- 'glossatorlaw13.RelexUpdates', WHERE WHAT IT READS IS OF BULK AT MOST 1048576: true; the input reads as it did. -/
def relexUpdatesUptoRow : OpenClaim := { program := "ytdnkjfcndjmdbaadoor", sum := "fd962524bb78d23f47bfc84c3fc6b0a6d9fe483b0ed617f49ca39e8fa1a4deb5", func := "glossator/glossatorlaw13.RelexUpdates", spec := "relexUpdates", inPlace := ["internal/bytealg.IndexByteString", "internal/bytealg.IndexString", "internal/bytealg.CountString"], named := ["unicode/utf8.first", "unicode/utf8.acceptRanges", "internal/bytealg.MaxLen"], apart := false, laid := [("unicode/utf8.acceptRanges", laid_unicode_utf8_acceptRanges), ("unicode/utf8.first", laid_unicode_utf8_first)], narrowed := true }
def RelexUpdatesUptoSaid : Prop := relexUpdatesUptoRow.holds Tryd.pinned (OpenSpec.upto relexUpdatesSpec)

/-- 'glossatorlaw12.LexWhole', WHERE WHAT IT READS IS OF BULK AT MOST 1048576: true; the input reads as it did. -/
def lexWholeUptoRow : OpenClaim := { program := "ytdnkjfcndjmdbaadoor", sum := "fd962524bb78d23f47bfc84c3fc6b0a6d9fe483b0ed617f49ca39e8fa1a4deb5", func := "glossator/glossatorlaw12.LexWhole", spec := "lexWhole", inPlace := ["internal/bytealg.IndexByteString", "internal/bytealg.IndexString", "internal/bytealg.CountString"], unfollowed := true, recurses := true, named := ["unicode/utf8.first", "unicode/utf8.acceptRanges", "internal/bytealg.MaxLen"], apart := false, laid := [("unicode/utf8.acceptRanges", laid_unicode_utf8_acceptRanges), ("unicode/utf8.first", laid_unicode_utf8_first)], narrowed := true }
def LexWholeUptoSaid : Prop := lexWholeUptoRow.holds Tryd.pinned (OpenSpec.upto lexWholeSpec)

/-- 'glossatorlaw12.LexLooks', WHERE WHAT IT READS IS OF BULK AT MOST 1048576: true; the input reads as it did. -/
def lexLooksUptoRow : OpenClaim := { program := "ytdnkjfcndjmdbaadoor", sum := "fd962524bb78d23f47bfc84c3fc6b0a6d9fe483b0ed617f49ca39e8fa1a4deb5", func := "glossator/glossatorlaw12.LexLooks", spec := "lexLooks", inPlace := ["internal/bytealg.IndexByteString", "internal/bytealg.IndexString", "internal/bytealg.CountString"], unfollowed := true, recurses := true, named := ["unicode/utf8.first", "unicode/utf8.acceptRanges", "internal/bytealg.MaxLen"], apart := false, laid := [("unicode/utf8.acceptRanges", laid_unicode_utf8_acceptRanges), ("unicode/utf8.first", laid_unicode_utf8_first)], narrowed := true }
def LexLooksUptoSaid : Prop := lexLooksUptoRow.holds Tryd.pinned (OpenSpec.upto lexLooksSpec)

/-- 'glossatorlaw12.LexRest', WHERE WHAT IT READS IS OF BULK AT MOST 1048576: true; the input reads as it did. -/
def lexRestUptoRow : OpenClaim := { program := "ytdnkjfcndjmdbaadoor", sum := "fd962524bb78d23f47bfc84c3fc6b0a6d9fe483b0ed617f49ca39e8fa1a4deb5", func := "glossator/glossatorlaw12.LexRest", spec := "lexRest", inPlace := ["internal/bytealg.IndexByteString", "internal/bytealg.IndexString", "internal/bytealg.CountString"], unfollowed := true, recurses := true, named := ["unicode/utf8.first", "unicode/utf8.acceptRanges", "internal/bytealg.MaxLen"], apart := false, laid := [("unicode/utf8.acceptRanges", laid_unicode_utf8_acceptRanges), ("unicode/utf8.first", laid_unicode_utf8_first)], narrowed := true }
def LexRestUptoSaid : Prop := lexRestUptoRow.holds Tryd.pinned (OpenSpec.upto lexRestSpec)

/-- 'glossatorlaw13.RelexKeeps', WHERE WHAT IT READS IS OF BULK AT MOST 1048576: true; the input reads as it did. -/
def relexKeepsUptoRow : OpenClaim := { program := "ytdnkjfcndjmdbaadoor", sum := "fd962524bb78d23f47bfc84c3fc6b0a6d9fe483b0ed617f49ca39e8fa1a4deb5", func := "glossator/glossatorlaw13.RelexKeeps", spec := "relexKeeps", inPlace := ["internal/bytealg.IndexByteString", "internal/bytealg.IndexString", "internal/bytealg.CountString"], unfollowed := true, recurses := true, named := ["unicode/utf8.first", "unicode/utf8.acceptRanges", "internal/bytealg.MaxLen"], apart := false, laid := [("unicode/utf8.acceptRanges", laid_unicode_utf8_acceptRanges), ("unicode/utf8.first", laid_unicode_utf8_first)], narrowed := true }
def RelexKeepsUptoSaid : Prop := relexKeepsUptoRow.holds Tryd.pinned (OpenSpec.upto relexKeepsSpec)

/-- 'glossatorlaw13.RelexTwice', WHERE WHAT IT READS IS OF BULK AT MOST 1048576: true; the input reads as it did. -/
def relexTwiceUptoRow : OpenClaim := { program := "ytdnkjfcndjmdbaadoor", sum := "fd962524bb78d23f47bfc84c3fc6b0a6d9fe483b0ed617f49ca39e8fa1a4deb5", func := "glossator/glossatorlaw13.RelexTwice", spec := "relexTwice", inPlace := ["internal/bytealg.IndexByteString", "internal/bytealg.IndexString", "internal/bytealg.CountString"], unfollowed := true, recurses := true, named := ["unicode/utf8.first", "unicode/utf8.acceptRanges", "internal/bytealg.MaxLen"], apart := false, laid := [("unicode/utf8.acceptRanges", laid_unicode_utf8_acceptRanges), ("unicode/utf8.first", laid_unicode_utf8_first)], narrowed := true }
def RelexTwiceUptoSaid : Prop := relexTwiceUptoRow.holds Tryd.pinned (OpenSpec.upto relexTwiceSpec)

end Rows
end Go.Proofs.YtdnkjfcndjmdbaaDoor
