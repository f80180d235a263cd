/-
  Contracts of the smallest functions: ranges, least, most, spots.
-/
import Derived.Test.YtipndibiioajmaaProg
import Derived.Test.YtipndibiioajmaaKit
namespace Go.Proofs.Ytipndibiioajmaa
open Go.RowKit

theorem i_within (n lo hi : Int) (w : World) : Calls Try.prog 58 #[.int .i64 n, .int .i64 lo, .int .i64 hi] w (TellsQ (InR n lo hi) w) := by
  go_enter Try.func58, Try.ntmps58
  go_wp2_with (first | fail)
  all_goals
    go_ret
    exact tellsQ_of (by first | (simp; done) | (simp; omega) | omega) 


theorem s_l1In (n lo hi : Int) (w : World) : Calls Try.prog 66 #[.int .i64 n, .int .i64 lo, .int .i64 hi] w (TellsQ (InR n lo hi) w) := by
  go_enter Try.func66, Try.ntmps66
  go_wp2_with (first | fail)
  all_goals
    go_ret
    exact tellsQ_of (by first | (simp; done) | (simp; omega) | omega) 



theorem s_l1Most (a b : Int) (w : World) :
    Calls Try.prog 77 #[.int .i64 a, .int .i64 b] w fun e w' => e = .returned (.int .i64 (max a b)) ∧ w = w' := by
  go_enter Try.func77, Try.ntmps77
  go_wp2
  all_goals
    go_ret
    exact ⟨ret_int (by omega), rfl⟩

theorem s_wnPlace (n : Int) (w : World) : Calls Try.prog 59 #[.int .i64 n] w (TellsQ (InR n 1 9) w) := by
  go_enter Try.func59, Try.ntmps59
  go_wp2_with (first | (go_at_call 66; refine (s_l1In _ _ _ _).mono ?_; rintro e w' (⟨hp, rfl, rfl⟩ | ⟨hp, rfl, rfl⟩)))
  all_goals
    go_ret
    exact tellsQ_of (by first | (simp; done) | (simp; omega) | omega) 


theorem s_wnHour (n : Int) (w : World) : Calls Try.prog 60 #[.int .i64 n] w (TellsQ (InR n 0 167) w) := by
  go_enter Try.func60, Try.ntmps60
  go_wp2_with (first | (go_at_call 66; refine (s_l1In _ _ _ _).mono ?_; rintro e w' (⟨hp, rfl, rfl⟩ | ⟨hp, rfl, rfl⟩)))
  all_goals
    go_ret
    exact tellsQ_of (by first | (simp; done) | (simp; omega) | omega) 


abbrev SpotP (x y : Int) : Prop := (0 ≤ x ∧ x ≤ 1280) ∧ 0 ≤ y ∧ y ≤ 672







end Go.Proofs.Ytipndibiioajmaa
