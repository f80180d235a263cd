/-
  Contracts of the smallest functions: ranges, least, most, spots.
-/
import Derived.Test.YtphfaeefjcdjjaaProg
import Derived.Test.YtphfaeefjcdjjaaKit
namespace Go.Proofs.Ytphfaeefjcdjjaa
open Go.RowKit

theorem i_within (n lo hi : Int) (w : World) : Calls Try.prog 31 #[.int .i64 n, .int .i64 lo, .int .i64 hi] w (TellsQ (InR n lo hi) w) := by
  go_enter Try.func31, Try.ntmps31
  go_wp2_with (first | fail)
  all_goals
    go_ret
    exact tellsQ_of (by first | (simp; done) | (simp; omega) | omega) 


theorem s_l1In (n lo hi : Int) (w : World) : Calls Try.prog 26 #[.int .i64 n, .int .i64 lo, .int .i64 hi] w (TellsQ (InR n lo hi) w) := by
  go_enter Try.func26, Try.ntmps26
  go_wp2_with (first | fail)
  all_goals
    go_ret
    exact tellsQ_of (by first | (simp; done) | (simp; omega) | omega) 


theorem s_l1Least (a b : Int) (w : World) :
    Calls Try.prog 38 #[.int .i64 a, .int .i64 b] w fun e w' => e = .returned (.int .i64 (min a b)) ∧ w = w' := by
  go_enter Try.func38, Try.ntmps38
  go_wp2
  all_goals
    go_ret
    exact ⟨ret_int (by omega), rfl⟩

theorem s_l1Most (a b : Int) (w : World) :
    Calls Try.prog 59 #[.int .i64 a, .int .i64 b] w fun e w' => e = .returned (.int .i64 (max a b)) ∧ w = w' := by
  go_enter Try.func59, Try.ntmps59
  go_wp2
  all_goals
    go_ret
    exact ⟨ret_int (by omega), rfl⟩





abbrev SpotP (x y : Int) : Prop := (0 ≤ x ∧ x ≤ 1280) ∧ 0 ≤ y ∧ y ≤ 672

theorem i_IsSpot (x y : Int) (w : World) : Calls Try.prog 48 #[.agg #[.int .i64 x, .int .i64 y]] w (Tells (SpotP x y) w) := by
  go_enter Try.func48, Try.ntmps48
  go_wp2_with (first | (go_at_call 31; refine (i_within _ _ _ _).mono ?_; rintro e w' (⟨hp, rfl, rfl⟩ | ⟨hp, rfl, rfl⟩)))
  all_goals
    go_ret
    exact tells_of (by first | (simp; done) | (simp; omega) | omega) (by (repeat (first | with_reducible exact Gw.refl _ | with_reducible assumption | ((with_reducible refine Gw.set ?_ ?_ _); rotate_left; (focus (first | (simp; done) | (simp; omega) | omega))) | with_reducible refine Gw.alloc ?_ _ | with_reducible refine Gw.drew ?_ | with_reducible refine Gw.drewN ?_ _ | (refine Gw.trans ?_ (by with_reducible assumption)))))


theorem s_stGood (x y : Int) (w : World) : Calls Try.prog 54 #[.agg #[.int .i64 x, .int .i64 y]] w (Tells (SpotP x y) w) := by
  go_enter Try.func54, Try.ntmps54
  go_wp2_with (first | (go_at_call 26; refine (s_l1In _ _ _ _).mono ?_; rintro e w' (⟨hp, rfl, rfl⟩ | ⟨hp, rfl, rfl⟩)))
  all_goals
    go_ret
    exact tells_of (by first | (simp; done) | (simp; omega) | omega) (by (repeat (first | with_reducible exact Gw.refl _ | with_reducible assumption | ((with_reducible refine Gw.set ?_ ?_ _); rotate_left; (focus (first | (simp; done) | (simp; omega) | omega))) | with_reducible refine Gw.alloc ?_ _ | with_reducible refine Gw.drew ?_ | with_reducible refine Gw.drewN ?_ _ | (refine Gw.trans ?_ (by with_reducible assumption)))))




end Go.Proofs.Ytphfaeefjcdjjaa
