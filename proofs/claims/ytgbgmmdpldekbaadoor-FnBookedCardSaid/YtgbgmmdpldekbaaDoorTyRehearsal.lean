/-
  Contracts of what the laws do with values of the type Rehearsal and lists of them: copies, comparisons, marks.
-/
import Derived.Test.YtgbgmmdpldekbaaDoorList
import Derived.Test.YtgbgmmdpldekbaaDoorProg
namespace Go.Proofs.YtgbgmmdpldekbaaDoor
open Go.RowKit

theorem infoRehearsal : (Tryd.prog.info? 45).map (fun i => (i.zero, i.size, i.bytes)) = some (some (.agg #[.int .i64 0, .int .i64 0]), 2, 16) := by kernel_rfl

end Go.Proofs.YtgbgmmdpldekbaaDoor
