/-
  Contracts of what the laws do with values of the type Booked and lists of them: copies, comparisons, marks.
-/
import Derived.Test.YtipndibiioajmaaList
import Derived.Test.YtipndibiioajmaaProg
namespace Go.Proofs.Ytipndibiioajmaa
open Go.RowKit

theorem infoBooked : (Try.prog.info? 88).map (fun i => (i.zero, i.size, i.bytes)) = some (some (.agg #[.int .i64 0, .int .i64 0, .int .i64 0, .int .i64 0]), 4, 32) := by kernel_rfl

end Go.Proofs.Ytipndibiioajmaa
