/-
  Contracts of the small scalar functions (ranges, least, most, sign, paces).
-/
import Derived.Test.YthokcddabgojgaaProg
import Derived.Test.YthokcddabgojgaaKit
namespace Go.Proofs.Ythokcddabgojgaa
open Go.RowKit

abbrev PaceP (a b : Int) : Prop := (1 ≤ a ∧ a ≤ 24) ∧ 40 ≤ b ∧ b ≤ 220

theorem i_within (n lo hi : Int) (w : World) : Calls Try.prog 44 #[.int .i64 n, .int .i64 lo, .int .i64 hi] w (TellsQ (InR n lo hi) w) := by
  go_enter Try.func44, Try.ntmps44
  go_wp2
  all_goals
    go_ret
    exact tellsQ_of (by simp; try omega)

theorem s_l1In (n lo hi : Int) (w : World) : Calls Try.prog 48 #[.int .i64 n, .int .i64 lo, .int .i64 hi] w (TellsQ (InR n lo hi) w) := by
  go_enter Try.func48, Try.ntmps48
  go_wp2
  all_goals
    go_ret
    exact tellsQ_of (by simp; try omega)

theorem i_isTempo (n : Int) (w : World) : Calls Try.prog 53 #[.int .i64 n] w (TellsQ (InR n 40 220) w) := by
  go_enter Try.func53, Try.ntmps53
  go_wp2_with (go_at_call 44; refine (i_within _ _ _ _).mono ?_; rintro e w' (⟨hp, rfl, rfl⟩ | ⟨hp, rfl, rfl⟩))
  all_goals
    go_ret
    exact tellsQ_of (by simp; try omega)

theorem i_isLimit (n : Int) (w : World) : Calls Try.prog 29 #[.int .i64 n] w (TellsQ (InR n 40 5280) w) := by
  go_enter Try.func29, Try.ntmps29
  go_wp2_with (go_at_call 44; refine (i_within _ _ _ _).mono ?_; rintro e w' (⟨hp, rfl, rfl⟩ | ⟨hp, rfl, rfl⟩))
  all_goals
    go_ret
    exact tellsQ_of (by simp; try omega)

theorem s_paTempo (n : Int) (w : World) : Calls Try.prog 57 #[.int .i64 n] w (TellsQ (InR n 40 220) w) := by
  go_enter Try.func57, Try.ntmps57
  go_wp2_with (go_at_call 48; refine (s_l1In _ _ _ _).mono ?_; rintro e w' (⟨hp, rfl, rfl⟩ | ⟨hp, rfl, rfl⟩))
  all_goals
    go_ret
    exact tellsQ_of (by simp; try omega)

theorem s_paLimit (n : Int) (w : World) : Calls Try.prog 34 #[.int .i64 n] w (TellsQ (InR n 40 5280) w) := by
  go_enter Try.func34, Try.ntmps34
  go_wp2_with (go_at_call 48; refine (s_l1In _ _ _ _).mono ?_; rintro e w' (⟨hp, rfl, rfl⟩ | ⟨hp, rfl, rfl⟩))
  all_goals
    go_ret
    exact tellsQ_of (by simp; try omega)

theorem s_mvStep (n : Int) (w : World) : Calls Try.prog 64 #[.int .i64 n] w (TellsQ (InR n 1 24) w) := by
  go_enter Try.func64, Try.ntmps64
  go_wp2_with (go_at_call 48; refine (s_l1In _ _ _ _).mono ?_; rintro e w' (⟨hp, rfl, rfl⟩ | ⟨hp, rfl, rfl⟩))
  all_goals
    go_ret
    exact tellsQ_of (by simp; try omega)

theorem i_IsPace (a b : Int) (w : World) : Calls Try.prog 28 #[.agg #[.int .i64 a, .int .i64 b]] w (Tells (PaceP a b) w) := by
  go_enter Try.func28, Try.ntmps28
  go_wp2_with (first | (go_at_call 44; refine (i_within _ _ _ _).mono ?_; rintro e w' (⟨hp, rfl, rfl⟩ | ⟨hp, rfl, rfl⟩)) | (go_at_call 53; refine (i_isTempo _ _).mono ?_; rintro e w' (⟨hp, rfl, rfl⟩ | ⟨hp, rfl, rfl⟩)))
  all_goals
    go_ret
    exact tells_of (by simp; try omega) (by (repeat (first | with_reducible exact Gw.refl _ | with_reducible assumption | ((with_reducible refine Gw.set ?_ ?_ _); rotate_left; (focus (first | (simp; done) | (simp; omega) | omega))) | with_reducible refine Gw.alloc ?_ _ | with_reducible refine Gw.drew ?_ | with_reducible refine Gw.drewN ?_ _ | (refine Gw.trans ?_ (by with_reducible assumption)))))

theorem s_paGood (a b : Int) (w : World) : Calls Try.prog 33 #[.agg #[.int .i64 a, .int .i64 b]] w (Tells (PaceP a b) w) := by
  go_enter Try.func33, Try.ntmps33
  go_wp2_with (first | (go_at_call 64; refine (s_mvStep _ _).mono ?_; rintro e w' (⟨hp, rfl, rfl⟩ | ⟨hp, rfl, rfl⟩)) | (go_at_call 57; refine (s_paTempo _ _).mono ?_; rintro e w' (⟨hp, rfl, rfl⟩ | ⟨hp, rfl, rfl⟩)))
  all_goals
    go_ret
    exact tells_of (by simp; try omega) (by (repeat (first | with_reducible exact Gw.refl _ | with_reducible assumption | ((with_reducible refine Gw.set ?_ ?_ _); rotate_left; (focus (first | (simp; done) | (simp; omega) | omega))) | with_reducible refine Gw.alloc ?_ _ | with_reducible refine Gw.drew ?_ | with_reducible refine Gw.drewN ?_ _ | (refine Gw.trans ?_ (by with_reducible assumption)))))

theorem s_l1Least (a b : Int) (w : World) :
    Calls Try.prog 67 #[.int .i64 a, .int .i64 b] w fun e w' => e = .returned (.int .i64 (min a b)) ∧ w = w' := by
  go_enter Try.func67, Try.ntmps67
  go_wp2
  all_goals
    go_ret
    exact ⟨ret_int (by omega), rfl⟩

theorem s_l1Most (a b : Int) (w : World) :
    Calls Try.prog 42 #[.int .i64 a, .int .i64 b] w fun e w' => e = .returned (.int .i64 (max a b)) ∧ w = w' := by
  go_enter Try.func42, Try.ntmps42
  go_wp2
  all_goals
    go_ret
    exact ⟨ret_int (by omega), rfl⟩

def sgn (n : Int) : Int := if 0 < n then 1 else if n < 0 then -1 else 0

def mostTempo (step limit : Int) : Int × Bool := if (1 ≤ step ∧ step ≤ 24) ∧ (40 ≤ limit ∧ limit ≤ 5280) ∧ 40 * step ≤ limit then (min (limit / step) 220, true) else (0, false)
def mostStep (tempo limit : Int) : Int × Bool := if (40 ≤ tempo ∧ tempo ≤ 220) ∧ (40 ≤ limit ∧ limit ≤ 5280) ∧ tempo ≤ limit then (min (limit / tempo) 24, true) else (0, false)

def compSpeeds (a b c d : Int) : Int × Bool := if ((1 ≤ a ∧ a ≤ 24) ∧ 40 ≤ b ∧ b ≤ 220) ∧ ((1 ≤ c ∧ c ≤ 24) ∧ 40 ≤ d ∧ d ≤ 220) then (sgn (a * b - c * d), true) else (0, false)

theorem mul_bd {a b : Int} (h : (1 ≤ a ∧ a ≤ 24) ∧ 40 ≤ b ∧ b ≤ 220) : 40 ≤ a * b ∧ a * b ≤ 5280 := by
  obtain ⟨⟨h1, h2⟩, h3, h4⟩ := h
  have e1 : 1 * 40 ≤ a * b := Int.mul_le_mul h1 h3 (by omega) (by omega)
  have e2 : a * b ≤ 24 * 220 := Int.mul_le_mul h2 h4 (by omega) (by omega)
  omega

end Go.Proofs.Ythokcddabgojgaa
