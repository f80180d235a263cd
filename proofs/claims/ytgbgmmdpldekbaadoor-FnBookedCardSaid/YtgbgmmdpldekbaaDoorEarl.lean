/-
  The earliest hours of a rehearsal: the program's way.
-/
import Derived.Test.YtgbgmmdpldekbaaDoorPlanP
import Derived.Test.YtgbgmmdpldekbaaDoorAppend
import Derived.Test.YtgbgmmdpldekbaaDoorBox
namespace Go.Proofs.YtgbgmmdpldekbaaDoor
open Go.RowKit

noncomputable def firstV (W : List (Int × Int × Int)) (S : List B4) (r : Int × Int) : B4 × Bool := match firstB W S r with
  | some x => (x, true)
  | none => ((0, 0, 0, 0), false)
abbrev retB (x : B4) (b : Bool) : Ending := .returned (.tuple #[.agg #[.int .i64 x.1, .int .i64 x.2.1, .int .i64 x.2.2.1, .int .i64 x.2.2.2], .bool b])

end Go.Proofs.YtgbgmmdpldekbaaDoor
