/-
  Contracts of what the laws do with values of the type Move and lists of them: copies, comparisons, marks.
-/
import Derived.Test.YtphfaeefjcdjjaaList
import Derived.Test.YtphfaeefjcdjjaaProg
import Derived.Test.YtphfaeefjcdjjaaTySpot
namespace Go.Proofs.Ytphfaeefjcdjjaa
open Go.RowKit

theorem infoMove : (Try.prog.info? 72).map (fun i => (i.zero, i.size, i.bytes)) = some (some (.agg #[.int .i64 0, .int .i64 0, .int .i64 0, .int .i64 0, .int .i64 0]), 5, 40) := by kernel_rfl

end Go.Proofs.Ytphfaeefjcdjjaa
