/-
  Contracts of what the laws do with values of the type Edit and lists of them: copies, comparisons, marks.
-/
import Derived.Test.YtoofpajeogllhaaList
import Derived.Test.YtoofpajeogllhaaProg
import Derived.Test.YtoofpajeogllhaaTySpot
namespace Go.Proofs.Ytoofpajeogllhaa
open Go.RowKit

theorem infoEdit : (Try.prog.info? 28).map (fun i => (i.zero, i.size, i.bytes)) = some (some (.agg #[.int .i64 0, .int .i64 0, .int .i64 0, .int .i64 0, .int .i64 0, .int .i64 0]), 6, 48) := by kernel_rfl

end Go.Proofs.Ytoofpajeogllhaa
