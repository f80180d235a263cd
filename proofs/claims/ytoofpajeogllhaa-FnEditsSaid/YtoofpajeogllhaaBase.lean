/-
  Contracts of the smallest functions: ranges, least, most, spots.
-/
import Derived.Test.YtoofpajeogllhaaProg
import Derived.Test.YtoofpajeogllhaaKit
namespace Go.Proofs.Ytoofpajeogllhaa
open Go.RowKit

theorem i_within (n lo hi : Int) (w : World) : Calls Try.prog 31 #[.int .i64 n, .int .i64 lo, .int .i64 hi] w (TellsQ (InR n lo hi) w) := by
  go_enter Try.func31, Try.ntmps31
  go_wp2_with (first | fail)
  all_goals
    go_ret
    exact tellsQ_of (by first | (simp; done) | (simp; omega) | omega) 


theorem s_l1In (n lo hi : Int) (w : World) : Calls Try.prog 57 #[.int .i64 n, .int .i64 lo, .int .i64 hi] w (TellsQ (InR n lo hi) w) := by
  go_enter Try.func57, Try.ntmps57
  go_wp2_with (first | fail)
  all_goals
    go_ret
    exact tellsQ_of (by first | (simp; done) | (simp; omega) | omega) 


theorem s_l1Least (a b : Int) (w : World) :
    Calls Try.prog 64 #[.int .i64 a, .int .i64 b] w fun e w' => e = .returned (.int .i64 (min a b)) ∧ w = w' := by
  go_enter Try.func64, Try.ntmps64
  go_wp2
  all_goals
    go_ret
    exact ⟨ret_int (by omega), rfl⟩






abbrev SpotP (x y : Int) : Prop := (0 ≤ x ∧ x ≤ 1280) ∧ 0 ≤ y ∧ y ≤ 672

theorem i_IsSpot (x y : Int) (w : World) : Calls Try.prog 32 #[.agg #[.int .i64 x, .int .i64 y]] w (Tells (SpotP x y) w) := by
  go_enter Try.func32, Try.ntmps32
  go_wp2_with (first | (go_at_call 31; refine (i_within _ _ _ _).mono ?_; rintro e w' (⟨hp, rfl, rfl⟩ | ⟨hp, rfl, rfl⟩)))
  all_goals
    go_ret
    exact tells_of (by first | (simp; done) | (simp; omega) | omega) (by (repeat (first | with_reducible exact Gw.refl _ | with_reducible assumption | ((with_reducible refine Gw.set ?_ ?_ _); rotate_left; (focus (first | (simp; done) | (simp; omega) | omega))) | with_reducible refine Gw.alloc ?_ _ | with_reducible refine Gw.drew ?_ | with_reducible refine Gw.drewN ?_ _ | (refine Gw.trans ?_ (by with_reducible assumption)))))


theorem s_stGood (x y : Int) (w : World) : Calls Try.prog 56 #[.agg #[.int .i64 x, .int .i64 y]] w (Tells (SpotP x y) w) := by
  go_enter Try.func56, Try.ntmps56
  go_wp2_with (first | (go_at_call 57; refine (s_l1In _ _ _ _).mono ?_; rintro e w' (⟨hp, rfl, rfl⟩ | ⟨hp, rfl, rfl⟩)))
  all_goals
    go_ret
    exact tells_of (by first | (simp; done) | (simp; omega) | omega) (by (repeat (first | with_reducible exact Gw.refl _ | with_reducible assumption | ((with_reducible refine Gw.set ?_ ?_ _); rotate_left; (focus (first | (simp; done) | (simp; omega) | omega))) | with_reducible refine Gw.alloc ?_ _ | with_reducible refine Gw.drew ?_ | with_reducible refine Gw.drewN ?_ _ | (refine Gw.trans ?_ (by with_reducible assumption)))))


theorem s_stTwo (a b c d : Int) (w : World) : Calls Try.prog 58 #[.agg #[.int .i64 a, .int .i64 b], .agg #[.int .i64 c, .int .i64 d]] w (Tells (SpotP a b ∧ SpotP c d) w) := by
  go_enter Try.func58, Try.ntmps58
  go_wp2_with (first | (go_at_call 56; refine (s_stGood _ _ _).mono ?_; rintro e w' (⟨hp, rfl, hb⟩ | ⟨hp, rfl, hb⟩) <;> (have hc := hb.cells; have hf := hb.frozens; have hz := hb.size; (try simp at hz); (try have hz0 : w.heap.size < w'.heap.size := (by omega)); (try have hz1 : w.heap.size + 1 < w'.heap.size := (by omega)); (try have hz2 : w.heap.size + 2 < w'.heap.size := (by omega)); (try have hz3 : w.heap.size + 3 < w'.heap.size := (by omega)); (try have hz4 : w.heap.size + 4 < w'.heap.size := (by omega)); (try have hz5 : w.heap.size + 5 < w'.heap.size := (by omega)))))
  all_goals
    go_ret
    exact tells_of (by first | (simp; done) | (simp; omega) | omega) (by (repeat (first | with_reducible exact Gw.refl _ | with_reducible assumption | ((with_reducible refine Gw.set ?_ ?_ _); rotate_left; (focus (first | (simp; done) | (simp; omega) | omega))) | with_reducible refine Gw.alloc ?_ _ | with_reducible refine Gw.drew ?_ | with_reducible refine Gw.drewN ?_ _ | (refine Gw.trans ?_ (by with_reducible assumption)))))


end Go.Proofs.Ytoofpajeogllhaa
