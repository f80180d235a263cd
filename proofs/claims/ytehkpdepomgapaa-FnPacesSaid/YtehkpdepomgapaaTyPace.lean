/-
  Contracts of what the laws do with values of the type Pace and lists of them: copies, comparisons, marks.
-/
import Derived.Test.YtehkpdepomgapaaList
import Derived.Test.YtehkpdepomgapaaProg
namespace Go.Proofs.Ytehkpdepomgapaa
open Go.RowKit

theorem infoPace : (Try.prog.info? 24).map (fun i => (i.zero, i.size, i.bytes)) = some (some (.agg #[.int .i64 0, .int .i64 0]), 2, 16) := by kernel_rfl

end Go.Proofs.Ytehkpdepomgapaa
