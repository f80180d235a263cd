/-
  Contracts of what the laws do with values of the type Spot and lists of them: copies, comparisons, marks.
-/
import Derived.Test.YthokcddabgojgaaList
import Derived.Test.YthokcddabgojgaaProg
namespace Go.Proofs.Ythokcddabgojgaa
open Go.RowKit

theorem infoSpot : (Try.prog.info? 24).map (fun i => (i.zero, i.size, i.bytes)) = some (some (.agg #[.int .i64 0, .int .i64 0]), 2, 16) := by kernel_rfl

end Go.Proofs.Ythokcddabgojgaa
