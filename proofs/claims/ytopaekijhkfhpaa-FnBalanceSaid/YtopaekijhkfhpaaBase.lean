/-
  Contracts of the smallest functions: ranges, least, most, spots.
-/
import Derived.Test.YtopaekijhkfhpaaProg
import Derived.Test.YtopaekijhkfhpaaKit
namespace Go.Proofs.Ytopaekijhkfhpaa
open Go.RowKit

theorem i_within (n lo hi : Int) (w : World) : Calls Try.prog 41 #[.int .i64 n, .int .i64 lo, .int .i64 hi] w (TellsQ (InR n lo hi) w) := by
  go_enter Try.func41, Try.ntmps41
  go_wp2_with (first | fail)
  all_goals
    go_ret
    exact tellsQ_of (by first | (simp; done) | (simp; omega) | omega) 


theorem s_l1In (n lo hi : Int) (w : World) : Calls Try.prog 36 #[.int .i64 n, .int .i64 lo, .int .i64 hi] w (TellsQ (InR n lo hi) w) := by
  go_enter Try.func36, Try.ntmps36
  go_wp2_with (first | fail)
  all_goals
    go_ret
    exact tellsQ_of (by first | (simp; done) | (simp; omega) | omega) 


theorem s_l1Least (a b : Int) (w : World) :
    Calls Try.prog 38 #[.int .i64 a, .int .i64 b] w fun e w' => e = .returned (.int .i64 (min a b)) ∧ w = w' := by
  go_enter Try.func38, Try.ntmps38
  go_wp2
  all_goals
    go_ret
    exact ⟨ret_int (by omega), rfl⟩

theorem s_l1Most (a b : Int) (w : World) :
    Calls Try.prog 73 #[.int .i64 a, .int .i64 b] w fun e w' => e = .returned (.int .i64 (max a b)) ∧ w = w' := by
  go_enter Try.func73, Try.ntmps73
  go_wp2
  all_goals
    go_ret
    exact ⟨ret_int (by omega), rfl⟩

abbrev SpotP (x y : Int) : Prop := (0 ≤ x ∧ x ≤ 1280) ∧ 0 ≤ y ∧ y ≤ 672







end Go.Proofs.Ytopaekijhkfhpaa
