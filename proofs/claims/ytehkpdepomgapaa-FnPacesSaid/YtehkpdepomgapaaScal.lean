/-
  Contracts of the small scalar functions (ranges, least, most, sign, paces).
-/
import Derived.Test.YtehkpdepomgapaaProg
import Derived.Test.YtehkpdepomgapaaKit
namespace Go.Proofs.Ytehkpdepomgapaa
open Go.RowKit

abbrev PaceP (a b : Int) : Prop := (1 ≤ a ∧ a ≤ 24) ∧ 40 ≤ b ∧ b ≤ 220

theorem i_within (n lo hi : Int) (w : World) : Calls Try.prog 67 #[.int .i64 n, .int .i64 lo, .int .i64 hi] w (TellsQ (InR n lo hi) w) := by
  go_enter Try.func67, Try.ntmps67
  go_wp2
  all_goals
    go_ret
    exact tellsQ_of (by simp; try omega)

theorem s_l1In (n lo hi : Int) (w : World) : Calls Try.prog 70 #[.int .i64 n, .int .i64 lo, .int .i64 hi] w (TellsQ (InR n lo hi) w) := by
  go_enter Try.func70, Try.ntmps70
  go_wp2
  all_goals
    go_ret
    exact tellsQ_of (by simp; try omega)

theorem i_isTempo (n : Int) (w : World) : Calls Try.prog 61 #[.int .i64 n] w (TellsQ (InR n 40 220) w) := by
  go_enter Try.func61, Try.ntmps61
  go_wp2_with (go_at_call 67; refine (i_within _ _ _ _).mono ?_; rintro e w' (⟨hp, rfl, rfl⟩ | ⟨hp, rfl, rfl⟩))
  all_goals
    go_ret
    exact tellsQ_of (by simp; try omega)

theorem i_isLimit (n : Int) (w : World) : Calls Try.prog 62 #[.int .i64 n] w (TellsQ (InR n 40 5280) w) := by
  go_enter Try.func62, Try.ntmps62
  go_wp2_with (go_at_call 67; refine (i_within _ _ _ _).mono ?_; rintro e w' (⟨hp, rfl, rfl⟩ | ⟨hp, rfl, rfl⟩))
  all_goals
    go_ret
    exact tellsQ_of (by simp; try omega)

theorem s_paTempo (n : Int) (w : World) : Calls Try.prog 63 #[.int .i64 n] w (TellsQ (InR n 40 220) w) := by
  go_enter Try.func63, Try.ntmps63
  go_wp2_with (go_at_call 70; refine (s_l1In _ _ _ _).mono ?_; rintro e w' (⟨hp, rfl, rfl⟩ | ⟨hp, rfl, rfl⟩))
  all_goals
    go_ret
    exact tellsQ_of (by simp; try omega)

theorem s_paLimit (n : Int) (w : World) : Calls Try.prog 64 #[.int .i64 n] w (TellsQ (InR n 40 5280) w) := by
  go_enter Try.func64, Try.ntmps64
  go_wp2_with (go_at_call 70; refine (s_l1In _ _ _ _).mono ?_; rintro e w' (⟨hp, rfl, rfl⟩ | ⟨hp, rfl, rfl⟩))
  all_goals
    go_ret
    exact tellsQ_of (by simp; try omega)

theorem s_mvStep (n : Int) (w : World) : Calls Try.prog 68 #[.int .i64 n] w (TellsQ (InR n 1 24) w) := by
  go_enter Try.func68, Try.ntmps68
  go_wp2_with (go_at_call 70; refine (s_l1In _ _ _ _).mono ?_; rintro e w' (⟨hp, rfl, rfl⟩ | ⟨hp, rfl, rfl⟩))
  all_goals
    go_ret
    exact tellsQ_of (by simp; try omega)

theorem i_IsPace (a b : Int) (w : World) : Calls Try.prog 21 #[.agg #[.int .i64 a, .int .i64 b]] w (Tells (PaceP a b) w) := by
  go_enter Try.func21, Try.ntmps21
  go_wp2_with (first | (go_at_call 67; refine (i_within _ _ _ _).mono ?_; rintro e w' (⟨hp, rfl, rfl⟩ | ⟨hp, rfl, rfl⟩)) | (go_at_call 61; refine (i_isTempo _ _).mono ?_; rintro e w' (⟨hp, rfl, rfl⟩ | ⟨hp, rfl, rfl⟩)))
  all_goals
    go_ret
    exact tells_of (by simp; try omega) (by (repeat (first | with_reducible exact Gw.refl _ | with_reducible assumption | ((with_reducible refine Gw.set ?_ ?_ _); rotate_left; (focus (first | (simp; done) | (simp; omega) | omega))) | with_reducible refine Gw.alloc ?_ _ | with_reducible refine Gw.drew ?_ | with_reducible refine Gw.drewN ?_ _ | (refine Gw.trans ?_ (by with_reducible assumption)))))

theorem s_paGood (a b : Int) (w : World) : Calls Try.prog 55 #[.agg #[.int .i64 a, .int .i64 b]] w (Tells (PaceP a b) w) := by
  go_enter Try.func55, Try.ntmps55
  go_wp2_with (first | (go_at_call 68; refine (s_mvStep _ _).mono ?_; rintro e w' (⟨hp, rfl, rfl⟩ | ⟨hp, rfl, rfl⟩)) | (go_at_call 63; refine (s_paTempo _ _).mono ?_; rintro e w' (⟨hp, rfl, rfl⟩ | ⟨hp, rfl, rfl⟩)))
  all_goals
    go_ret
    exact tells_of (by simp; try omega) (by (repeat (first | with_reducible exact Gw.refl _ | with_reducible assumption | ((with_reducible refine Gw.set ?_ ?_ _); rotate_left; (focus (first | (simp; done) | (simp; omega) | omega))) | with_reducible refine Gw.alloc ?_ _ | with_reducible refine Gw.drew ?_ | with_reducible refine Gw.drewN ?_ _ | (refine Gw.trans ?_ (by with_reducible assumption)))))

theorem s_l1Least (a b : Int) (w : World) :
    Calls Try.prog 65 #[.int .i64 a, .int .i64 b] w fun e w' => e = .returned (.int .i64 (min a b)) ∧ w = w' := by
  go_enter Try.func65, Try.ntmps65
  go_wp2
  all_goals
    go_ret
    exact ⟨ret_int (by omega), rfl⟩

theorem s_l1Most (a b : Int) (w : World) :
    Calls Try.prog 75 #[.int .i64 a, .int .i64 b] w fun e w' => e = .returned (.int .i64 (max a b)) ∧ w = w' := by
  go_enter Try.func75, Try.ntmps75
  go_wp2
  all_goals
    go_ret
    exact ⟨ret_int (by omega), rfl⟩

def sgn (n : Int) : Int := if 0 < n then 1 else if n < 0 then -1 else 0

theorem s_l1Sign (a : Int) (w : World) : Calls Try.prog 56 #[.int .i64 a] w fun e w' => e = .returned (.int .i64 (sgn a)) ∧ w = w' := by
  go_enter Try.func56, Try.ntmps56
  go_wp2
  all_goals
    go_ret
    exact ⟨ret_int (by unfold sgn; (repeat' split) <;> omega), rfl⟩

theorem i_sideOf (a : Int) (w : World) : Calls Try.prog 54 #[.int .i64 a] w fun e w' => e = .returned (.int .i64 (sgn a)) ∧ w = w' := by
  go_enter Try.func54, Try.ntmps54
  go_wp2
  all_goals
    go_ret
    exact ⟨ret_int (by unfold sgn; (repeat' split) <;> omega), rfl⟩

def mostTempo (step limit : Int) : Int × Bool := if (1 ≤ step ∧ step ≤ 24) ∧ (40 ≤ limit ∧ limit ≤ 5280) ∧ 40 * step ≤ limit then (min (limit / step) 220, true) else (0, false)
def mostStep (tempo limit : Int) : Int × Bool := if (40 ≤ tempo ∧ tempo ≤ 220) ∧ (40 ≤ limit ∧ limit ≤ 5280) ∧ tempo ≤ limit then (min (limit / tempo) 24, true) else (0, false)

theorem s_MostTempo (a b : Int) (w : World) :
    Calls Try.prog 16 #[.int .i64 a, .int .i64 b] w fun e w' => e = .returned (.tuple #[.int .i64 (mostTempo a b).1, .bool (mostTempo a b).2]) ∧ w = w' := by
  go_enter Try.func16, Try.ntmps16
  go_wp2_with (first | (go_at_call 68; refine (s_mvStep _ _).mono ?_; rintro e w' (⟨hp, rfl, rfl⟩ | ⟨hp, rfl, rfl⟩)) | (go_at_call 64; refine (s_paLimit _ _).mono ?_; rintro e w' (⟨hp, rfl, rfl⟩ | ⟨hp, rfl, rfl⟩)) | (go_at_call 65; refine (s_l1Least _ _ _).mono ?_; rintro e w' ⟨rfl, rfl⟩))
  all_goals
    go_ret2
    exact ⟨ret_ib (f := mostTempo a b) (by unfold mostTempo; first | rw [if_pos (by omega), Int.min_comm] | rw [if_neg (by omega)]), rfl⟩

theorem i_MostTempo (a b : Int) (w : World) :
    Calls Try.prog 15 #[.int .i64 a, .int .i64 b] w fun e w' => e = .returned (.tuple #[.int .i64 (mostTempo a b).1, .bool (mostTempo a b).2]) ∧ w = w' := by
  go_enter Try.func15, Try.ntmps15
  go_wp2_with (first | (go_at_call 67; refine (i_within _ _ _ _).mono ?_; rintro e w' (⟨hp, rfl, rfl⟩ | ⟨hp, rfl, rfl⟩)) | (go_at_call 62; refine (i_isLimit _ _).mono ?_; rintro e w' (⟨hp, rfl, rfl⟩ | ⟨hp, rfl, rfl⟩)))
  all_goals
    go_ret2
    refine ⟨ret_ib (f := mostTempo a b) ?_, rfl⟩
    have hd : 1 ≤ a → (40 ≤ b / a ↔ 40 * a ≤ b) := fun h => Int.le_ediv_iff_mul_le (by omega)
    unfold mostTempo
    first | (rw [if_pos (by omega)]; simp; omega) | rw [if_neg (by omega)]

theorem s_MostStep (a b : Int) (w : World) :
    Calls Try.prog 13 #[.int .i64 a, .int .i64 b] w fun e w' => e = .returned (.tuple #[.int .i64 (mostStep a b).1, .bool (mostStep a b).2]) ∧ w = w' := by
  go_enter Try.func13, Try.ntmps13
  go_wp2_with (first | (go_at_call 63; refine (s_paTempo _ _).mono ?_; rintro e w' (⟨hp, rfl, rfl⟩ | ⟨hp, rfl, rfl⟩)) | (go_at_call 64; refine (s_paLimit _ _).mono ?_; rintro e w' (⟨hp, rfl, rfl⟩ | ⟨hp, rfl, rfl⟩)) | (go_at_call 65; refine (s_l1Least _ _ _).mono ?_; rintro e w' ⟨rfl, rfl⟩))
  all_goals
    go_ret2
    exact ⟨ret_ib (f := mostStep a b) (by unfold mostStep; first | rw [if_pos (by omega), Int.min_comm] | rw [if_neg (by omega)]), rfl⟩

theorem i_MostStep (a b : Int) (w : World) :
    Calls Try.prog 12 #[.int .i64 a, .int .i64 b] w fun e w' => e = .returned (.tuple #[.int .i64 (mostStep a b).1, .bool (mostStep a b).2]) ∧ w = w' := by
  go_enter Try.func12, Try.ntmps12
  go_wp2_with (first | (go_at_call 61; refine (i_isTempo _ _).mono ?_; rintro e w' (⟨hp, rfl, rfl⟩ | ⟨hp, rfl, rfl⟩)) | (go_at_call 62; refine (i_isLimit _ _).mono ?_; rintro e w' (⟨hp, rfl, rfl⟩ | ⟨hp, rfl, rfl⟩)))
  all_goals
    go_ret2
    refine ⟨ret_ib (f := mostStep a b) ?_, rfl⟩
    unfold mostStep
    first | (rw [if_pos (by omega)]; simp; omega) | rw [if_neg (by omega)]

def compSpeeds (a b c d : Int) : Int × Bool := if ((1 ≤ a ∧ a ≤ 24) ∧ 40 ≤ b ∧ b ≤ 220) ∧ ((1 ≤ c ∧ c ≤ 24) ∧ 40 ≤ d ∧ d ≤ 220) then (sgn (a * b - c * d), true) else (0, false)

theorem mul_bd {a b : Int} (h : (1 ≤ a ∧ a ≤ 24) ∧ 40 ≤ b ∧ b ≤ 220) : 40 ≤ a * b ∧ a * b ≤ 5280 := by
  obtain ⟨⟨h1, h2⟩, h3, h4⟩ := h
  have e1 : 1 * 40 ≤ a * b := Int.mul_le_mul h1 h3 (by omega) (by omega)
  have e2 : a * b ≤ 24 * 220 := Int.mul_le_mul h2 h4 (by omega) (by omega)
  omega

theorem s_CompareSpeeds (a b c d : Int) (w : World) :
    Calls Try.prog 8 #[.agg #[.int .i64 a, .int .i64 b], .agg #[.int .i64 c, .int .i64 d]] w fun e w' => e = .returned (.tuple #[.int .i64 (compSpeeds a b c d).1, .bool (compSpeeds a b c d).2]) ∧ Gw w w' := by
  have m1 := @mul_bd a b
  have m2 := @mul_bd c d
  go_enter Try.func8, Try.ntmps8
  go_wp2_with (first | (go_at_call 55; refine (s_paGood _ _ _).mono ?_; rintro e w' (⟨hp, rfl, hb⟩ | ⟨hp, rfl, hb⟩) <;> (have hc := hb.cells; have hf := hb.frozens; have hz := hb.size; (try simp at hz); (try have hz0 : w.heap.size < w'.heap.size := (by omega)); (try have hz1 : w.heap.size + 1 < w'.heap.size := (by omega)); (try have hz2 : w.heap.size + 2 < w'.heap.size := (by omega)); (try have hz3 : w.heap.size + 3 < w'.heap.size := (by omega)); (try have hz4 : w.heap.size + 4 < w'.heap.size := (by omega)); (try have hz5 : w.heap.size + 5 < w'.heap.size := (by omega)))) | (go_at_call 56; refine (s_l1Sign _ _).mono ?_; rintro e w' ⟨rfl, rfl⟩))
  all_goals
    go_ret2
    exact ⟨ret_ib (f := compSpeeds a b c d) (by unfold compSpeeds; first | rw [if_pos (by omega)] | rw [if_neg (by omega)]), by (repeat (first | with_reducible exact Gw.refl _ | with_reducible assumption | ((with_reducible refine Gw.set ?_ ?_ _); rotate_left; (focus (first | (simp; done) | (simp; omega) | omega))) | with_reducible refine Gw.alloc ?_ _ | with_reducible refine Gw.drew ?_ | with_reducible refine Gw.drewN ?_ _ | (refine Gw.trans ?_ (by with_reducible assumption))))⟩

theorem i_CompareSpeeds (a b c d : Int) (w : World) :
    Calls Try.prog 7 #[.agg #[.int .i64 a, .int .i64 b], .agg #[.int .i64 c, .int .i64 d]] w fun e w' => e = .returned (.tuple #[.int .i64 (compSpeeds a b c d).1, .bool (compSpeeds a b c d).2]) ∧ Gw w w' := by
  have m1 := @mul_bd a b
  have m2 := @mul_bd c d
  go_enter Try.func7, Try.ntmps7
  go_wp2_with (first | (go_at_call 21; refine (i_IsPace _ _ _).mono ?_; rintro e w' (⟨hp, rfl, hb⟩ | ⟨hp, rfl, hb⟩) <;> (have hc := hb.cells; have hf := hb.frozens; have hz := hb.size; (try simp at hz); (try have hz0 : w.heap.size < w'.heap.size := (by omega)); (try have hz1 : w.heap.size + 1 < w'.heap.size := (by omega)); (try have hz2 : w.heap.size + 2 < w'.heap.size := (by omega)); (try have hz3 : w.heap.size + 3 < w'.heap.size := (by omega)); (try have hz4 : w.heap.size + 4 < w'.heap.size := (by omega)); (try have hz5 : w.heap.size + 5 < w'.heap.size := (by omega)))) | (go_at_call 54; refine (i_sideOf _ _).mono ?_; rintro e w' ⟨rfl, rfl⟩))
  all_goals
    go_ret2
    exact ⟨ret_ib (f := compSpeeds a b c d) (by unfold compSpeeds; first | rw [if_pos (by omega)] | rw [if_neg (by omega)]), by (repeat (first | with_reducible exact Gw.refl _ | with_reducible assumption | ((with_reducible refine Gw.set ?_ ?_ _); rotate_left; (focus (first | (simp; done) | (simp; omega) | omega))) | with_reducible refine Gw.alloc ?_ _ | with_reducible refine Gw.drew ?_ | with_reducible refine Gw.drewN ?_ _ | (refine Gw.trans ?_ (by with_reducible assumption))))⟩

end Go.Proofs.Ytehkpdepomgapaa
