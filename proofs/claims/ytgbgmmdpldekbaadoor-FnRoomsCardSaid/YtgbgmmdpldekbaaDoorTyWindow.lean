/-
  Contracts of what the laws do with values of the type Window and lists of them: copies, comparisons, marks.
-/
import Derived.Test.YtgbgmmdpldekbaaDoorList
import Derived.Test.YtgbgmmdpldekbaaDoorProg
namespace Go.Proofs.YtgbgmmdpldekbaaDoor
open Go.RowKit

theorem infoWindow : (Tryd.prog.info? 68).map (fun i => (i.zero, i.size, i.bytes)) = some (some (.agg #[.int .i64 0, .int .i64 0, .int .i64 0]), 3, 24) := by kernel_rfl

end Go.Proofs.YtgbgmmdpldekbaaDoor
