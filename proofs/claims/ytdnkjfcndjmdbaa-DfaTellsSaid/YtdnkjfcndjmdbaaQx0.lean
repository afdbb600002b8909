-- WRITTEN BY wip/mprint.py, which runs the kit's print program with some functions taken as given (their contracts are proved by hand). Not trusted: Lean checks it.
import Derived.Test.YtdnkjfcndjmdbaaProg
import Derived.Below
import Derived.Deep.Draws
import Derived.Deep.AppendLies
import Derived.Maps.AppendAt
import Derived.OwnWalk
import Derived.Laws.BytesArg
import Derived.Laws.MakeOwn
import Derived.Laws.OwnMore
import Derived.Deep.OwnRows
import Derived.Tactics
import Derived.Lib.ConvBytes
import Derived.Laws.Slices
import Derived.WalkKit
import Derived.KernelRfl
import Derived.RowKit3
import Derived.Deep.LoopGhost
import Derived.Deep.QuietTactic
import Derived.BigQuiet
import Derived.WideLaws
import Derived.Deep.DeepCutAuto
import Derived.Deep.CutBlock
import Derived.Deep.RegionHeld3
import Derived.Laws.Rows
import Derived.Lib.AppendStr
import Derived.ArgAppend
import Derived.Laws.IdiomCopy
import Derived.OrdersHeld
import Derived.Laws.BitsLemmas
import Derived.RowKit
import Derived.Test.YtdnkjfcndjmdbaaWWords
import Derived.Test.YtdnkjfcndjmdbaaWLast
import Derived.Test.YtdnkjfcndjmdbaaWTab
import Derived.Test.YtdnkjfcndjmdbaaWFour
import Derived.Test.YtdnkjfcndjmdbaaWQPut
import Derived.Test.YtdnkjfcndjmdbaaWApart
import Derived.Test.YtdnkjfcndjmdbaaWArr
import Derived.Test.YtdnkjfcndjmdbaaWZeros
import Derived.Test.YtdnkjfcndjmdbaaWFoot
import Derived.Test.YtdnkjfcndjmdbaaWKept
import Derived.Test.YtdnkjfcndjmdbaaWShare
import Derived.Test.YtdnkjfcndjmdbaaWN
import Derived.Test.YtdnkjfcndjmdbaaWFootNe
import Derived.Test.YtdnkjfcndjmdbaaWAt
import Derived.Test.YtdnkjfcndjmdbaaWEqStruct
import Derived.Test.YtdnkjfcndjmdbaaWRepsOne
import Derived.Test.YtdnkjfcndjmdbaaWInv
import Derived.Test.YtdnkjfcndjmdbaaWInvWords
import Derived.Test.YtdnkjfcndjmdbaaWGuard
import Derived.Test.YtdnkjfcndjmdbaaWNEv
import Derived.Test.YtdnkjfcndjmdbaaWMore
namespace Go.Proofs.Ytdnkjfcndjmdbaa.Q
open Go.RowKit Go.Proofs.YtdnkjfcndjmdbaaW.PrintWords Go.Proofs.YtdnkjfcndjmdbaaW.PrintLast Go.Proofs.YtdnkjfcndjmdbaaW.PrintMore
attribute [local go_sem] max2_int min2_int max_two min_two max_three min_three max_four min_four   -- for this text's walks alone
set_option linter.unusedVariables false
set_option linter.unusedSimpArgs false



def errW : Option Int → Value
  | none => .nilIface
  | some c => .iface 0 (.int .i64 c)
theorem errW_none : errW none = .nilIface := rfl
theorem errW_some (c : Int) : errW (some c) = .iface 0 (.int .i64 c) := rfl

theorem info3 : (Try.prog.info? 3).map (fun i => (i.zero, i.size, i.bytes)) = some (some (.int .i64 0), 1, 8) := by kernel_rfl
theorem info5 : (Try.prog.info? 5).map (fun i => (i.zero, i.size, i.bytes)) = some (some (.int .u8 0), 1, 1) := by kernel_rfl
-- the values' own types

end Go.Proofs.Ytdnkjfcndjmdbaa.Q
