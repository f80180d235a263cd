/-
  Contracts of what the laws do with values of the type Int and lists of them: copies, comparisons, marks.
-/
import Derived.Test.YthokcddabgojgaaList
import Derived.Test.YthokcddabgojgaaProg
namespace Go.Proofs.Ythokcddabgojgaa
open Go.RowKit

theorem infoInt : (Try.prog.info? 3).map (fun i => (i.zero, i.size, i.bytes)) = some (some (.int .i64 0), 1, 8) := by kernel_rfl

end Go.Proofs.Ythokcddabgojgaa
