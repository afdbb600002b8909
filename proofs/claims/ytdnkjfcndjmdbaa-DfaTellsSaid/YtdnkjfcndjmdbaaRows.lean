/-
  No cell of these rows narrows 'for every input' (looked for: loops, veiled, ifaces, maps, wideKeys, modest, calm, conditions, laid).
  DERIVED. THE GIVEN ROWS OF THIS SEAT. 2 by the template 'for every input the law returns true; each argument reads behind the call as it read before'; 0 by the template 'total and deterministic' (their statements: YtdnkjfcndjmdbaaTotals.lean).
  GIVEN WITH THE SEED: the statements are not yours to turn. If you find one false, say at which input.
  Laid BY PROGRAM, IN A SANDBOX (cutbox-rows.mjs): the forced cells as the released guide's own fill.sh prints them over the translation e34a4fa643409bac… (all of the seat's roots in one cut). By AI agents, Wed Nov 11 2026. No macro, syntax, notation, axiom, sorry.
-/
import Derived.Test.YtdnkjfcndjmdbaaChecked
import GoSem.Claim
import GoSem.ClaimJoined
import GoSem.ClaimMapViews
import Derived.JoinedTies
import Derived.KernelRfl
namespace Go.Proofs.Ytdnkjfcndjmdbaa
/- THE CELL 'sum', in the pinned program and in every row, IS THE sha256 OF THE DUMP (.gsa) THAT YtdnkjfcndjmdbaaProg.lean LOADS. Nothing in Lean hashes anything: it is a label: what it is worth is what the hold of that sum in a sandbox is worth. -/
noncomputable def Try.pinned : Pinned := { name := "ytdnkjfcndjmdbaa", sum := "e34a4fa643409baca30356449b04f374186e58fb35f774fb5dca7ce6b7b86991", checked := Try.checked }
namespace Rows
def none {H : Type} : Left H := { results := [], args := [] }

/-- 'glossatorlaw11.DfaTable': WHATEVER THE INPUT: true; the input reads as it did. -/
def dfaTableSpec : ChangeSpec := { name := "dfaTable", fn := fun _ => fun
  | [] => { results := [.lit (.bool true)], args := [] }
  | _ => none }
def dfaTableRow : OpenClaim := { program := "ytdnkjfcndjmdbaa", sum := "e34a4fa643409baca30356449b04f374186e58fb35f774fb5dca7ce6b7b86991", func := "glossator/glossatorlaw11.DfaTable", spec := "dfaTable", inPlace := ["internal/bytealg.IndexByteString"], apart := false }
def DfaTableSaid : Prop := dfaTableRow.holds Try.pinned (OpenSpec.ofChange dfaTableSpec)

/-- ITS FALSE NEIGHBOUR: 'it returns false'. Refute it at one input. -/
def dfaTableWrong : ChangeSpec := { name := "dfaTable", fn := fun _ => fun
  | [] => { results := [.lit (.bool false)], args := [] }
  | _ => none }
def DfaTableWrongFalsely : Prop := dfaTableRow.holds Try.pinned (OpenSpec.ofChange dfaTableWrong)

/-- 'glossatorlaw11.DfaTells': WHATEVER THE INPUT: true; the input reads as it did. -/
def dfaTellsSpec : ChangeSpec := { name := "dfaTells", fn := fun _ => fun
  | [d1, d2, d3] => { results := [.lit (.bool true)], args := [d1, d2, d3] }
  | _ => none }
def dfaTellsRow : OpenClaim := { program := "ytdnkjfcndjmdbaa", sum := "e34a4fa643409baca30356449b04f374186e58fb35f774fb5dca7ce6b7b86991", func := "glossator/glossatorlaw11.DfaTells", spec := "dfaTells", inPlace := ["internal/bytealg.IndexByteString"], apart := false }
def DfaTellsSaid : Prop := dfaTellsRow.holds Try.pinned (OpenSpec.ofChange dfaTellsSpec)

/-- ITS FALSE NEIGHBOUR: 'it returns false'. Refute it at one input. -/
def dfaTellsWrong : ChangeSpec := { name := "dfaTells", fn := fun _ => fun
  | [d1, d2, d3] => { results := [.lit (.bool false)], args := [d1, d2, d3] }
  | _ => none }
def DfaTellsWrongFalsely : Prop := dfaTellsRow.holds Try.pinned (OpenSpec.ofChange dfaTellsWrong)

/- THE SECOND FORM. 'bulk': how many values and letters a reading holds, each counted each time it is reached (what is shared counts as often as it is met; a slice's spare places count too). A statement '..UptoSaid' is the law's where the arguments, and the package variables that the reading takes, are together of bulk at most 1048576: NARROWER than '..Said'. Prove '..Said' where nothing that the law and all that it calls make is longer than what came in: it says more and counts as full. Else prove '..UptoSaid'. A law counts once. -/
mutual
def uptoBulk {H : Type} : DataW H → Nat
  | .lit (.string bytes) => bytes.length + 1
  | .lit _ => 1
  | .nil => 1
  | .ptr d => uptoBulk d + 1
  | .slice elems spare => uptoBulkAll elems + uptoBulkAll spare + 1
  | .agg parts => uptoBulkAll parts + 1
  | .iface _ d => uptoBulk d + 1
  | .map entries => uptoBulkEntries entries + 1
  | .held _ => 1
def uptoBulkAll {H : Type} : List (DataW H) → Nat
  | [] => 0
  | d :: r => uptoBulk d + uptoBulkAll r
def uptoBulkEntries {H : Type} : List (Lit × DataW H) → Nat
  | [] => 0
  | x :: r => uptoBulkEntry x + uptoBulkEntries r
def uptoBulkEntry {H : Type} : Lit × DataW H → Nat
  | (.string bytes, d) => bytes.length + uptoBulk d + 1
  | (_, d) => uptoBulk d + 1
 end
def uptoSmall : (H : Type) → List (DataW H) → Bool := fun _ ds => decide (uptoBulkAll ds ≤ 1048576)
def OpenSpec.upto (s : _root_.Go.ChangeSpec) : _root_.Go.OpenSpec := { _root_.Go.OpenSpec.ofChange s with cond := some uptoSmall }

/-- 'glossatorlaw11.DfaTable', WHERE WHAT IT READS IS OF BULK AT MOST 1048576: true; the input reads as it did. -/
def dfaTableUptoRow : OpenClaim := { program := "ytdnkjfcndjmdbaa", sum := "e34a4fa643409baca30356449b04f374186e58fb35f774fb5dca7ce6b7b86991", func := "glossator/glossatorlaw11.DfaTable", spec := "dfaTable", inPlace := ["internal/bytealg.IndexByteString"], apart := false, narrowed := true }
def DfaTableUptoSaid : Prop := dfaTableUptoRow.holds Try.pinned (OpenSpec.upto dfaTableSpec)

/-- 'glossatorlaw11.DfaTells', WHERE WHAT IT READS IS OF BULK AT MOST 1048576: true; the input reads as it did. -/
def dfaTellsUptoRow : OpenClaim := { program := "ytdnkjfcndjmdbaa", sum := "e34a4fa643409baca30356449b04f374186e58fb35f774fb5dca7ce6b7b86991", func := "glossator/glossatorlaw11.DfaTells", spec := "dfaTells", inPlace := ["internal/bytealg.IndexByteString"], apart := false, narrowed := true }
def DfaTellsUptoSaid : Prop := dfaTellsUptoRow.holds Try.pinned (OpenSpec.upto dfaTellsSpec)

end Rows
end Go.Proofs.Ytdnkjfcndjmdbaa
