/-
  Contracts of the small scalar functions (ranges, least, most, sign, paces).
-/
import Derived.Test.YtcplnmanockhoaaProg
import Derived.Test.YtcplnmanockhoaaKit
namespace Go.Proofs.Ytcplnmanockhoaa
open Go.RowKit

abbrev PaceP (a b : Int) : Prop := (1 ≤ a ∧ a ≤ 24) ∧ 40 ≤ b ∧ b ≤ 220

theorem i_within (n lo hi : Int) (w : World) : Calls Try.prog 70 #[.int .i64 n, .int .i64 lo, .int .i64 hi] w (TellsQ (InR n lo hi) w) := by
  go_enter Try.func70, Try.ntmps70
  go_wp2
  all_goals
    go_ret
    exact tellsQ_of (by simp; try omega)

theorem s_l1In (n lo hi : Int) (w : World) : Calls Try.prog 104 #[.int .i64 n, .int .i64 lo, .int .i64 hi] w (TellsQ (InR n lo hi) w) := by
  go_enter Try.func104, Try.ntmps104
  go_wp2
  all_goals
    go_ret
    exact tellsQ_of (by simp; try omega)

theorem i_isTempo (n : Int) (w : World) : Calls Try.prog 71 #[.int .i64 n] w (TellsQ (InR n 40 220) w) := by
  go_enter Try.func71, Try.ntmps71
  go_wp2_with (go_at_call 70; refine (i_within _ _ _ _).mono ?_; rintro e w' (⟨hp, rfl, rfl⟩ | ⟨hp, rfl, rfl⟩))
  all_goals
    go_ret
    exact tellsQ_of (by simp; try omega)

theorem i_isLimit (n : Int) (w : World) : Calls Try.prog 75 #[.int .i64 n] w (TellsQ (InR n 40 5280) w) := by
  go_enter Try.func75, Try.ntmps75
  go_wp2_with (go_at_call 70; refine (i_within _ _ _ _).mono ?_; rintro e w' (⟨hp, rfl, rfl⟩ | ⟨hp, rfl, rfl⟩))
  all_goals
    go_ret
    exact tellsQ_of (by simp; try omega)

theorem s_paTempo (n : Int) (w : World) : Calls Try.prog 76 #[.int .i64 n] w (TellsQ (InR n 40 220) w) := by
  go_enter Try.func76, Try.ntmps76
  go_wp2_with (go_at_call 104; refine (s_l1In _ _ _ _).mono ?_; rintro e w' (⟨hp, rfl, rfl⟩ | ⟨hp, rfl, rfl⟩))
  all_goals
    go_ret
    exact tellsQ_of (by simp; try omega)

theorem s_paLimit (n : Int) (w : World) : Calls Try.prog 73 #[.int .i64 n] w (TellsQ (InR n 40 5280) w) := by
  go_enter Try.func73, Try.ntmps73
  go_wp2_with (go_at_call 104; refine (s_l1In _ _ _ _).mono ?_; rintro e w' (⟨hp, rfl, rfl⟩ | ⟨hp, rfl, rfl⟩))
  all_goals
    go_ret
    exact tellsQ_of (by simp; try omega)

theorem s_mvStep (n : Int) (w : World) : Calls Try.prog 72 #[.int .i64 n] w (TellsQ (InR n 1 24) w) := by
  go_enter Try.func72, Try.ntmps72
  go_wp2_with (go_at_call 104; refine (s_l1In _ _ _ _).mono ?_; rintro e w' (⟨hp, rfl, rfl⟩ | ⟨hp, rfl, rfl⟩))
  all_goals
    go_ret
    exact tellsQ_of (by simp; try omega)

theorem i_IsPace (a b : Int) (w : World) : Calls Try.prog 17 #[.agg #[.int .i64 a, .int .i64 b]] w (Tells (PaceP a b) w) := by
  go_enter Try.func17, Try.ntmps17
  go_wp2_with (first | (go_at_call 70; refine (i_within _ _ _ _).mono ?_; rintro e w' (⟨hp, rfl, rfl⟩ | ⟨hp, rfl, rfl⟩)) | (go_at_call 71; refine (i_isTempo _ _).mono ?_; rintro e w' (⟨hp, rfl, rfl⟩ | ⟨hp, rfl, rfl⟩)))
  all_goals
    go_ret
    exact tells_of (by simp; try omega) (by (repeat (first | with_reducible exact Gw.refl _ | with_reducible assumption | ((with_reducible refine Gw.set ?_ ?_ _); rotate_left; (focus (first | (simp; done) | (simp; omega) | omega))) | with_reducible refine Gw.alloc ?_ _ | with_reducible refine Gw.drew ?_ | with_reducible refine Gw.drewN ?_ _ | (refine Gw.trans ?_ (by with_reducible assumption)))))

theorem s_paGood (a b : Int) (w : World) : Calls Try.prog 69 #[.agg #[.int .i64 a, .int .i64 b]] w (Tells (PaceP a b) w) := by
  go_enter Try.func69, Try.ntmps69
  go_wp2_with (first | (go_at_call 72; refine (s_mvStep _ _).mono ?_; rintro e w' (⟨hp, rfl, rfl⟩ | ⟨hp, rfl, rfl⟩)) | (go_at_call 76; refine (s_paTempo _ _).mono ?_; rintro e w' (⟨hp, rfl, rfl⟩ | ⟨hp, rfl, rfl⟩)))
  all_goals
    go_ret
    exact tells_of (by simp; try omega) (by (repeat (first | with_reducible exact Gw.refl _ | with_reducible assumption | ((with_reducible refine Gw.set ?_ ?_ _); rotate_left; (focus (first | (simp; done) | (simp; omega) | omega))) | with_reducible refine Gw.alloc ?_ _ | with_reducible refine Gw.drew ?_ | with_reducible refine Gw.drewN ?_ _ | (refine Gw.trans ?_ (by with_reducible assumption)))))

theorem s_IsPace (a b : Int) (w : World) : Calls Try.prog 15 #[.agg #[.int .i64 a, .int .i64 b]] w (Tells (PaceP a b) w) := by
  go_enter Try.func15, Try.ntmps15
  go_wp2_with (go_at_call 69; refine (s_paGood _ _ _).mono ?_; rintro e w' (⟨hp, rfl, hb⟩ | ⟨hp, rfl, hb⟩) <;> (have hc := hb.cells; have hf := hb.frozens; have hz := hb.size; (try simp at hz); (try have hz0 : w.heap.size < w'.heap.size := (by omega)); (try have hz1 : w.heap.size + 1 < w'.heap.size := (by omega)); (try have hz2 : w.heap.size + 2 < w'.heap.size := (by omega)); (try have hz3 : w.heap.size + 3 < w'.heap.size := (by omega)); (try have hz4 : w.heap.size + 4 < w'.heap.size := (by omega)); (try have hz5 : w.heap.size + 5 < w'.heap.size := (by omega))))
  all_goals
    go_ret
    exact tells_of (by simp; try omega) (by (repeat (first | with_reducible exact Gw.refl _ | with_reducible assumption | ((with_reducible refine Gw.set ?_ ?_ _); rotate_left; (focus (first | (simp; done) | (simp; omega) | omega))) | with_reducible refine Gw.alloc ?_ _ | with_reducible refine Gw.drew ?_ | with_reducible refine Gw.drewN ?_ _ | (refine Gw.trans ?_ (by with_reducible assumption)))))

theorem s_l1Least (a b : Int) (w : World) :
    Calls Try.prog 74 #[.int .i64 a, .int .i64 b] w fun e w' => e = .returned (.int .i64 (min a b)) ∧ w = w' := by
  go_enter Try.func74, Try.ntmps74
  go_wp2
  all_goals
    go_ret
    exact ⟨ret_int (by omega), rfl⟩

theorem s_l1Most (a b : Int) (w : World) :
    Calls Try.prog 107 #[.int .i64 a, .int .i64 b] w fun e w' => e = .returned (.int .i64 (max a b)) ∧ w = w' := by
  go_enter Try.func107, Try.ntmps107
  go_wp2
  all_goals
    go_ret
    exact ⟨ret_int (by omega), rfl⟩

def sgn (n : Int) : Int := if 0 < n then 1 else if n < 0 then -1 else 0

theorem s_l1Sign (a : Int) (w : World) : Calls Try.prog 77 #[.int .i64 a] w fun e w' => e = .returned (.int .i64 (sgn a)) ∧ w = w' := by
  go_enter Try.func77, Try.ntmps77
  go_wp2
  all_goals
    go_ret
    exact ⟨ret_int (by unfold sgn; (repeat' split) <;> omega), rfl⟩

theorem i_sideOf (a : Int) (w : World) : Calls Try.prog 78 #[.int .i64 a] w fun e w' => e = .returned (.int .i64 (sgn a)) ∧ w = w' := by
  go_enter Try.func78, Try.ntmps78
  go_wp2
  all_goals
    go_ret
    exact ⟨ret_int (by unfold sgn; (repeat' split) <;> omega), rfl⟩

def mostTempo (step limit : Int) : Int × Bool := if (1 ≤ step ∧ step ≤ 24) ∧ (40 ≤ limit ∧ limit ≤ 5280) ∧ 40 * step ≤ limit then (min (limit / step) 220, true) else (0, false)
def mostStep (tempo limit : Int) : Int × Bool := if (40 ≤ tempo ∧ tempo ≤ 220) ∧ (40 ≤ limit ∧ limit ≤ 5280) ∧ tempo ≤ limit then (min (limit / tempo) 24, true) else (0, false)

theorem s_MostTempo (a b : Int) (w : World) :
    Calls Try.prog 18 #[.int .i64 a, .int .i64 b] w fun e w' => e = .returned (.tuple #[.int .i64 (mostTempo a b).1, .bool (mostTempo a b).2]) ∧ w = w' := by
  go_enter Try.func18, Try.ntmps18
  go_wp2_with (first | (go_at_call 72; refine (s_mvStep _ _).mono ?_; rintro e w' (⟨hp, rfl, rfl⟩ | ⟨hp, rfl, rfl⟩)) | (go_at_call 73; refine (s_paLimit _ _).mono ?_; rintro e w' (⟨hp, rfl, rfl⟩ | ⟨hp, rfl, rfl⟩)) | (go_at_call 74; refine (s_l1Least _ _ _).mono ?_; rintro e w' ⟨rfl, rfl⟩))
  all_goals
    go_ret2
    exact ⟨ret_ib (f := mostTempo a b) (by unfold mostTempo; first | rw [if_pos (by omega), Int.min_comm] | rw [if_neg (by omega)]), rfl⟩

theorem i_MostTempo (a b : Int) (w : World) :
    Calls Try.prog 19 #[.int .i64 a, .int .i64 b] w fun e w' => e = .returned (.tuple #[.int .i64 (mostTempo a b).1, .bool (mostTempo a b).2]) ∧ w = w' := by
  go_enter Try.func19, Try.ntmps19
  go_wp2_with (first | (go_at_call 70; refine (i_within _ _ _ _).mono ?_; rintro e w' (⟨hp, rfl, rfl⟩ | ⟨hp, rfl, rfl⟩)) | (go_at_call 75; refine (i_isLimit _ _).mono ?_; rintro e w' (⟨hp, rfl, rfl⟩ | ⟨hp, rfl, rfl⟩)))
  all_goals
    go_ret2
    refine ⟨ret_ib (f := mostTempo a b) ?_, rfl⟩
    have hd : 1 ≤ a → (40 ≤ b / a ↔ 40 * a ≤ b) := fun h => Int.le_ediv_iff_mul_le (by omega)
    unfold mostTempo
    first | (rw [if_pos (by omega)]; simp; omega) | rw [if_neg (by omega)]

theorem s_MostStep (a b : Int) (w : World) :
    Calls Try.prog 20 #[.int .i64 a, .int .i64 b] w fun e w' => e = .returned (.tuple #[.int .i64 (mostStep a b).1, .bool (mostStep a b).2]) ∧ w = w' := by
  go_enter Try.func20, Try.ntmps20
  go_wp2_with (first | (go_at_call 76; refine (s_paTempo _ _).mono ?_; rintro e w' (⟨hp, rfl, rfl⟩ | ⟨hp, rfl, rfl⟩)) | (go_at_call 73; refine (s_paLimit _ _).mono ?_; rintro e w' (⟨hp, rfl, rfl⟩ | ⟨hp, rfl, rfl⟩)) | (go_at_call 74; refine (s_l1Least _ _ _).mono ?_; rintro e w' ⟨rfl, rfl⟩))
  all_goals
    go_ret2
    exact ⟨ret_ib (f := mostStep a b) (by unfold mostStep; first | rw [if_pos (by omega), Int.min_comm] | rw [if_neg (by omega)]), rfl⟩

theorem i_MostStep (a b : Int) (w : World) :
    Calls Try.prog 21 #[.int .i64 a, .int .i64 b] w fun e w' => e = .returned (.tuple #[.int .i64 (mostStep a b).1, .bool (mostStep a b).2]) ∧ w = w' := by
  go_enter Try.func21, Try.ntmps21
  go_wp2_with (first | (go_at_call 71; refine (i_isTempo _ _).mono ?_; rintro e w' (⟨hp, rfl, rfl⟩ | ⟨hp, rfl, rfl⟩)) | (go_at_call 75; refine (i_isLimit _ _).mono ?_; rintro e w' (⟨hp, rfl, rfl⟩ | ⟨hp, rfl, rfl⟩)))
  all_goals
    go_ret2
    refine ⟨ret_ib (f := mostStep a b) ?_, rfl⟩
    unfold mostStep
    first | (rw [if_pos (by omega)]; simp; omega) | rw [if_neg (by omega)]

def compSpeeds (a b c d : Int) : Int × Bool := if ((1 ≤ a ∧ a ≤ 24) ∧ 40 ≤ b ∧ b ≤ 220) ∧ ((1 ≤ c ∧ c ≤ 24) ∧ 40 ≤ d ∧ d ≤ 220) then (sgn (a * b - c * d), true) else (0, false)

theorem mul_bd {a b : Int} (h : (1 ≤ a ∧ a ≤ 24) ∧ 40 ≤ b ∧ b ≤ 220) : 40 ≤ a * b ∧ a * b ≤ 5280 := by
  obtain ⟨⟨h1, h2⟩, h3, h4⟩ := h
  have e1 : 1 * 40 ≤ a * b := Int.mul_le_mul h1 h3 (by omega) (by omega)
  have e2 : a * b ≤ 24 * 220 := Int.mul_le_mul h2 h4 (by omega) (by omega)
  omega

theorem s_CompareSpeeds (a b c d : Int) (w : World) :
    Calls Try.prog 22 #[.agg #[.int .i64 a, .int .i64 b], .agg #[.int .i64 c, .int .i64 d]] w fun e w' => e = .returned (.tuple #[.int .i64 (compSpeeds a b c d).1, .bool (compSpeeds a b c d).2]) ∧ Gw w w' := by
  have m1 := @mul_bd a b
  have m2 := @mul_bd c d
  go_enter Try.func22, Try.ntmps22
  go_wp2_with (first | (go_at_call 69; refine (s_paGood _ _ _).mono ?_; rintro e w' (⟨hp, rfl, hb⟩ | ⟨hp, rfl, hb⟩) <;> (have hc := hb.cells; have hf := hb.frozens; have hz := hb.size; (try simp at hz); (try have hz0 : w.heap.size < w'.heap.size := (by omega)); (try have hz1 : w.heap.size + 1 < w'.heap.size := (by omega)); (try have hz2 : w.heap.size + 2 < w'.heap.size := (by omega)); (try have hz3 : w.heap.size + 3 < w'.heap.size := (by omega)); (try have hz4 : w.heap.size + 4 < w'.heap.size := (by omega)); (try have hz5 : w.heap.size + 5 < w'.heap.size := (by omega)))) | (go_at_call 77; refine (s_l1Sign _ _).mono ?_; rintro e w' ⟨rfl, rfl⟩))
  all_goals
    go_ret2
    exact ⟨ret_ib (f := compSpeeds a b c d) (by unfold compSpeeds; first | rw [if_pos (by omega)] | rw [if_neg (by omega)]), by (repeat (first | with_reducible exact Gw.refl _ | with_reducible assumption | ((with_reducible refine Gw.set ?_ ?_ _); rotate_left; (focus (first | (simp; done) | (simp; omega) | omega))) | with_reducible refine Gw.alloc ?_ _ | with_reducible refine Gw.drew ?_ | with_reducible refine Gw.drewN ?_ _ | (refine Gw.trans ?_ (by with_reducible assumption))))⟩

theorem i_CompareSpeeds (a b c d : Int) (w : World) :
    Calls Try.prog 23 #[.agg #[.int .i64 a, .int .i64 b], .agg #[.int .i64 c, .int .i64 d]] w fun e w' => e = .returned (.tuple #[.int .i64 (compSpeeds a b c d).1, .bool (compSpeeds a b c d).2]) ∧ Gw w w' := by
  have m1 := @mul_bd a b
  have m2 := @mul_bd c d
  go_enter Try.func23, Try.ntmps23
  go_wp2_with (first | (go_at_call 17; refine (i_IsPace _ _ _).mono ?_; rintro e w' (⟨hp, rfl, hb⟩ | ⟨hp, rfl, hb⟩) <;> (have hc := hb.cells; have hf := hb.frozens; have hz := hb.size; (try simp at hz); (try have hz0 : w.heap.size < w'.heap.size := (by omega)); (try have hz1 : w.heap.size + 1 < w'.heap.size := (by omega)); (try have hz2 : w.heap.size + 2 < w'.heap.size := (by omega)); (try have hz3 : w.heap.size + 3 < w'.heap.size := (by omega)); (try have hz4 : w.heap.size + 4 < w'.heap.size := (by omega)); (try have hz5 : w.heap.size + 5 < w'.heap.size := (by omega)))) | (go_at_call 78; refine (i_sideOf _ _).mono ?_; rintro e w' ⟨rfl, rfl⟩))
  all_goals
    go_ret2
    exact ⟨ret_ib (f := compSpeeds a b c d) (by unfold compSpeeds; first | rw [if_pos (by omega)] | rw [if_neg (by omega)]), by (repeat (first | with_reducible exact Gw.refl _ | with_reducible assumption | ((with_reducible refine Gw.set ?_ ?_ _); rotate_left; (focus (first | (simp; done) | (simp; omega) | omega))) | with_reducible refine Gw.alloc ?_ _ | with_reducible refine Gw.drew ?_ | with_reducible refine Gw.drewN ?_ _ | (refine Gw.trans ?_ (by with_reducible assumption))))⟩

end Go.Proofs.Ytcplnmanockhoaa
