/- What the scanner's table tells is what the reference tells, for every number that DfaTable asks. -/
import Derived.Test.YtdnkjfcndjmdbaaQx2
namespace Go.Proofs.Ytdnkjfcndjmdbaa.Pure
open Go.RowKit Go.Proofs.Ytdnkjfcndjmdbaa.Q Go.Proofs.YtdnkjfcndjmdbaaW.PrintWords Go.Proofs.YtdnkjfcndjmdbaaW.PrintLast

set_option maxRecDepth 100000 in
theorem DfaTable : glossatorlaw11_DfaTable.Pure := ⟨2000, by kernel_rfl⟩

end Go.Proofs.Ytdnkjfcndjmdbaa.Pure
