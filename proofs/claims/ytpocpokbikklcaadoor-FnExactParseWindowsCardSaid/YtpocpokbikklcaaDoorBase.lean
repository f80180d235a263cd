/-
  Contracts of the smallest functions: ranges, least, most, spots.
-/
import Derived.Test.YtpocpokbikklcaaDoorProg
import Derived.Test.YtpocpokbikklcaaDoorKit
namespace Go.Proofs.YtpocpokbikklcaaDoor
open Go.RowKit

theorem i_within (n lo hi : Int) (w : World) : Calls Tryd.prog 45 #[.int .i64 n, .int .i64 lo, .int .i64 hi] w (TellsQ (InR n lo hi) w) := by
  go_enter Tryd.func45, Tryd.ntmps45
  go_wp2_with (first | fail)
  all_goals
    go_ret
    exact tellsQ_of (by first | (simp; done) | (simp; omega) | omega) 


theorem s_l1In (n lo hi : Int) (w : World) : Calls Tryd.prog 41 #[.int .i64 n, .int .i64 lo, .int .i64 hi] w (TellsQ (InR n lo hi) w) := by
  go_enter Tryd.func41, Tryd.ntmps41
  go_wp2_with (first | fail)
  all_goals
    go_ret
    exact tellsQ_of (by first | (simp; done) | (simp; omega) | omega) 




abbrev SpotP (x y : Int) : Prop := (0 ≤ x ∧ x ≤ 1280) ∧ 0 ≤ y ∧ y ≤ 672







end Go.Proofs.YtpocpokbikklcaaDoor
