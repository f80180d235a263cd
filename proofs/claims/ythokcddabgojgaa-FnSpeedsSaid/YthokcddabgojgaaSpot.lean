/-
  Spots, moves, squares and speeds: contracts of the functions that only compute with them.
-/
import Derived.Test.YthokcddabgojgaaScal
import Derived.Test.YthokcddabgojgaaNum
namespace Go.Proofs.Ythokcddabgojgaa
open Go.RowKit

abbrev SpotP (x y : Int) : Prop := (0 ≤ x ∧ x ≤ 1280) ∧ 0 ≤ y ∧ y ≤ 672
abbrev MoveP (a b c d n : Int) : Prop := SpotP a b ∧ SpotP c d ∧ 1 ≤ n ∧ n ≤ 64
def sq (a b c d : Int) : Int := (a - c) * (a - c) + (b - d) * (b - d)

theorem sq_self_bd {x m : Int} (h : -m ≤ x) (h' : x ≤ m) : 0 ≤ x * x ∧ x * x ≤ m * m := by
  rcases Int.le_total 0 x with h0 | h0
  · exact ⟨Int.mul_nonneg h0 h0, Int.mul_le_mul h' h' h0 (by omega)⟩
  · have h1 := Int.mul_nonneg (show 0 ≤ -x by omega) (show 0 ≤ -x by omega)
    have := Int.mul_le_mul (show -x ≤ m by omega) (show -x ≤ m by omega) (by omega) (by omega)
    rw [Int.neg_mul_neg] at this h1
    exact ⟨h1, this⟩
theorem sq_bd {a b c d : Int} (h : SpotP a b) (h' : SpotP c d) : 0 ≤ sq a b c d ∧ sq a b c d ≤ 2089984 := by
  have h1 := sq_self_bd (x := a - c) (m := 1280) (by omega) (by omega)
  have h2 := sq_self_bd (x := b - d) (m := 672) (by omega) (by omega)
  unfold sq
  omega

theorem i_IsSpot (x y : Int) (w : World) : Calls Try.prog 27 #[.agg #[.int .i64 x, .int .i64 y]] w (Tells (SpotP x y) w) := by
  go_enter Try.func27, Try.ntmps27
  go_wp2_with (first | (go_at_call 44; refine (i_within _ _ _ _).mono ?_; rintro e w' (⟨hp, rfl, rfl⟩ | ⟨hp, rfl, rfl⟩)))
  all_goals
    go_ret
    exact tells_of (by first | (simp; done) | (simp; omega) | omega) (by (repeat (first | with_reducible exact Gw.refl _ | with_reducible assumption | ((with_reducible refine Gw.set ?_ ?_ _); rotate_left; (focus (first | (simp; done) | (simp; omega) | omega))) | with_reducible refine Gw.alloc ?_ _ | with_reducible refine Gw.drew ?_ | with_reducible refine Gw.drewN ?_ _ | (refine Gw.trans ?_ (by with_reducible assumption)))))


theorem s_stGood (x y : Int) (w : World) : Calls Try.prog 69 #[.agg #[.int .i64 x, .int .i64 y]] w (Tells (SpotP x y) w) := by
  go_enter Try.func69, Try.ntmps69
  go_wp2_with (first | (go_at_call 48; refine (s_l1In _ _ _ _).mono ?_; rintro e w' (⟨hp, rfl, rfl⟩ | ⟨hp, rfl, rfl⟩)))
  all_goals
    go_ret
    exact tells_of (by first | (simp; done) | (simp; omega) | omega) (by (repeat (first | with_reducible exact Gw.refl _ | with_reducible assumption | ((with_reducible refine Gw.set ?_ ?_ _); rotate_left; (focus (first | (simp; done) | (simp; omega) | omega))) | with_reducible refine Gw.alloc ?_ _ | with_reducible refine Gw.drew ?_ | with_reducible refine Gw.drewN ?_ _ | (refine Gw.trans ?_ (by with_reducible assumption)))))


theorem s_stTwo (a b c d : Int) (w : World) : Calls Try.prog 32 #[.agg #[.int .i64 a, .int .i64 b], .agg #[.int .i64 c, .int .i64 d]] w (Tells (SpotP a b ∧ SpotP c d) w) := by
  go_enter Try.func32, Try.ntmps32
  go_wp2_with (first | (go_at_call 69; refine (s_stGood _ _ _).mono ?_; rintro e w' (⟨hp, rfl, hb⟩ | ⟨hp, rfl, hb⟩) <;> (have hc := hb.cells; have hf := hb.frozens; have hz := hb.size; (try simp at hz); (try have hz0 : w.heap.size < w'.heap.size := (by omega)); (try have hz1 : w.heap.size + 1 < w'.heap.size := (by omega)); (try have hz2 : w.heap.size + 2 < w'.heap.size := (by omega)); (try have hz3 : w.heap.size + 3 < w'.heap.size := (by omega)); (try have hz4 : w.heap.size + 4 < w'.heap.size := (by omega)); (try have hz5 : w.heap.size + 5 < w'.heap.size := (by omega)))))
  all_goals
    go_ret
    exact tells_of (by first | (simp; done) | (simp; omega) | omega) (by (repeat (first | with_reducible exact Gw.refl _ | with_reducible assumption | ((with_reducible refine Gw.set ?_ ?_ _); rotate_left; (focus (first | (simp; done) | (simp; omega) | omega))) | with_reducible refine Gw.alloc ?_ _ | with_reducible refine Gw.drew ?_ | with_reducible refine Gw.drewN ?_ _ | (refine Gw.trans ?_ (by with_reducible assumption)))))


theorem i_IsMove (a b c d n : Int) (w : World) : Calls Try.prog 52 #[.agg #[.int .i64 a, .int .i64 b, .int .i64 c, .int .i64 d, .int .i64 n]] w (Tells (MoveP a b c d n) w) := by
  go_enter Try.func52, Try.ntmps52
  go_wp2_with (first | (go_at_call 27; refine (i_IsSpot _ _ _).mono ?_; rintro e w' (⟨hp, rfl, hb⟩ | ⟨hp, rfl, hb⟩) <;> (have hc := hb.cells; have hf := hb.frozens; have hz := hb.size; (try simp at hz); (try have hz0 : w.heap.size < w'.heap.size := (by omega)); (try have hz1 : w.heap.size + 1 < w'.heap.size := (by omega)); (try have hz2 : w.heap.size + 2 < w'.heap.size := (by omega)); (try have hz3 : w.heap.size + 3 < w'.heap.size := (by omega)); (try have hz4 : w.heap.size + 4 < w'.heap.size := (by omega)); (try have hz5 : w.heap.size + 5 < w'.heap.size := (by omega)))) | (go_at_call 44; refine (i_within _ _ _ _).mono ?_; rintro e w' (⟨hp, rfl, rfl⟩ | ⟨hp, rfl, rfl⟩)))
  all_goals
    go_ret
    exact tells_of (by first | (simp; done) | (simp; omega) | omega) (by (repeat (first | with_reducible exact Gw.refl _ | with_reducible assumption | ((with_reducible refine Gw.set ?_ ?_ _); rotate_left; (focus (first | (simp; done) | (simp; omega) | omega))) | with_reducible refine Gw.alloc ?_ _ | with_reducible refine Gw.drew ?_ | with_reducible refine Gw.drewN ?_ _ | (refine Gw.trans ?_ (by with_reducible assumption)))))


theorem s_mvGood (a b c d n : Int) (w : World) : Calls Try.prog 56 #[.agg #[.int .i64 a, .int .i64 b, .int .i64 c, .int .i64 d, .int .i64 n]] w (Tells (MoveP a b c d n) w) := by
  go_enter Try.func56, Try.ntmps56
  go_wp2_with (first | (go_at_call 69; refine (s_stGood _ _ _).mono ?_; rintro e w' (⟨hp, rfl, hb⟩ | ⟨hp, rfl, hb⟩) <;> (have hc := hb.cells; have hf := hb.frozens; have hz := hb.size; (try simp at hz); (try have hz0 : w.heap.size < w'.heap.size := (by omega)); (try have hz1 : w.heap.size + 1 < w'.heap.size := (by omega)); (try have hz2 : w.heap.size + 2 < w'.heap.size := (by omega)); (try have hz3 : w.heap.size + 3 < w'.heap.size := (by omega)); (try have hz4 : w.heap.size + 4 < w'.heap.size := (by omega)); (try have hz5 : w.heap.size + 5 < w'.heap.size := (by omega)))) | (go_at_call 48; refine (s_l1In _ _ _ _).mono ?_; rintro e w' (⟨hp, rfl, rfl⟩ | ⟨hp, rfl, rfl⟩)))
  all_goals
    go_ret
    exact tells_of (by first | (simp; done) | (simp; omega) | omega) (by (repeat (first | with_reducible exact Gw.refl _ | with_reducible assumption | ((with_reducible refine Gw.set ?_ ?_ _); rotate_left; (focus (first | (simp; done) | (simp; omega) | omega))) | with_reducible refine Gw.alloc ?_ _ | with_reducible refine Gw.drew ?_ | with_reducible refine Gw.drewN ?_ _ | (refine Gw.trans ?_ (by with_reducible assumption)))))


theorem i_squareOf (a b c d : Int) (w : World) (h : SpotP a b) (h' : SpotP c d) :
    Calls Try.prog 55 #[.agg #[.int .i64 a, .int .i64 b], .agg #[.int .i64 c, .int .i64 d]] w fun e w' => e = .returned (.int .i64 (sq a b c d)) ∧ Gw w w' := by
  have h1 := sq_self_bd (x := a - c) (m := 1280) (by omega) (by omega)
  have h2 := sq_self_bd (x := b - d) (m := 672) (by omega) (by omega)
  go_enter Try.func55, Try.ntmps55
  go_wp2_with ((with_reducible refine wp_region_gw (by kernel_rfl) (by kernel_rfl) ?_); have hcq := @GwOf.cell; (repeat (go_big_quiet_step (fail))); refine wpQuiet_nil ?_; clear hcq; rintro w' ⟨⟨w', hb⟩, rfl⟩; (try dsimp only); have hc := hb.cells; have hf := hb.frozens; have hz := hb.size; (try simp at hz); (try have hz0 : w.heap.size < w'.heap.size := (by omega)); (try have hz1 : w.heap.size + 1 < w'.heap.size := (by omega)); (try have hz2 : w.heap.size + 2 < w'.heap.size := (by omega)); (try have hz3 : w.heap.size + 3 < w'.heap.size := (by omega)); (try have hz4 : w.heap.size + 4 < w'.heap.size := (by omega)); (try have hz5 : w.heap.size + 5 < w'.heap.size := (by omega)))
  go_ret
  exact ⟨ret_int rfl, by (repeat (first | with_reducible exact Gw.refl _ | with_reducible assumption | ((with_reducible refine Gw.set ?_ ?_ _); rotate_left; (focus (first | (simp; done) | (simp; omega) | omega))) | with_reducible refine Gw.alloc ?_ _ | with_reducible refine Gw.drew ?_ | with_reducible refine Gw.drewN ?_ _ | (refine Gw.trans ?_ (by with_reducible assumption))))⟩

theorem s_stSquare (a b c d : Int) (w : World) (h : SpotP a b) (h' : SpotP c d) :
    Calls Try.prog 37 #[.agg #[.int .i64 a, .int .i64 b], .agg #[.int .i64 c, .int .i64 d]] w fun e w' => e = .returned (.int .i64 (sq a b c d)) ∧ Gw w w' := by
  have h1 := sq_self_bd (x := a - c) (m := 1280) (by omega) (by omega)
  have h2 := sq_self_bd (x := b - d) (m := 672) (by omega) (by omega)
  go_enter Try.func37, Try.ntmps37
  go_wp2_with ((with_reducible refine wp_region_gw (by kernel_rfl) (by kernel_rfl) ?_); have hcq := @GwOf.cell; (repeat (go_big_quiet_step (fail))); refine wpQuiet_nil ?_; clear hcq; rintro w' ⟨⟨w', hb⟩, rfl⟩; (try dsimp only); have hc := hb.cells; have hf := hb.frozens; have hz := hb.size; (try simp at hz); (try have hz0 : w.heap.size < w'.heap.size := (by omega)); (try have hz1 : w.heap.size + 1 < w'.heap.size := (by omega)); (try have hz2 : w.heap.size + 2 < w'.heap.size := (by omega)); (try have hz3 : w.heap.size + 3 < w'.heap.size := (by omega)); (try have hz4 : w.heap.size + 4 < w'.heap.size := (by omega)); (try have hz5 : w.heap.size + 5 < w'.heap.size := (by omega)))
  go_ret
  exact ⟨ret_int rfl, by (repeat (first | with_reducible exact Gw.refl _ | with_reducible assumption | ((with_reducible refine Gw.set ?_ ?_ _); rotate_left; (focus (first | (simp; done) | (simp; omega) | omega))) | with_reducible refine Gw.alloc ?_ _ | with_reducible refine Gw.drew ?_ | with_reducible refine Gw.drewN ?_ _ | (refine Gw.trans ?_ (by with_reducible assumption))))⟩


/-- Products of bounded numbers. -/
theorem mul_in {x y m n : Int} (h : 0 ≤ x ∧ x ≤ m) (h' : 0 ≤ y ∧ y ≤ n) : 0 ≤ x * y ∧ x * y ≤ m * n :=
  ⟨Int.mul_nonneg h.1 h'.1, Int.mul_le_mul h.2 h'.2 h'.1 (by omega)⟩

abbrev WithinP (a b c d n s : Int) : Prop := sq a b c d ≤ s * s * n * n
abbrev FastP (a b c d n t l : Int) : Prop := l * l * n * n < sq a b c d * t * t

theorem within_bd {s n : Int} (hs : 1 ≤ s ∧ s ≤ 24) (hn : 1 ≤ n ∧ n ≤ 64) : (0 ≤ s * s ∧ s * s ≤ 576) ∧ (0 ≤ s * s * n ∧ s * s * n ≤ 36864) ∧ 0 ≤ s * s * n * n ∧ s * s * n * n ≤ 2359296 := by
  have h1 := mul_in (x := s) (y := s) ⟨by omega, hs.2⟩ ⟨by omega, hs.2⟩
  have h2 := mul_in (x := s * s) (y := n) h1 ⟨by omega, hn.2⟩
  have h3 := mul_in (x := s * s * n) (y := n) h2 ⟨by omega, hn.2⟩
  exact ⟨h1, h2, h3⟩
theorem fast_bd {S t l n : Int} (hS : 0 ≤ S ∧ S ≤ 2089984) (ht : 0 ≤ t ∧ t ≤ 220) (hl : 40 ≤ l ∧ l ≤ 5280) (hn : 1 ≤ n ∧ n ≤ 64) :
    ((0 ≤ S * t ∧ S * t ≤ 459796480) ∧ 0 ≤ S * t * t ∧ S * t * t ≤ 101155225600) ∧ (0 ≤ l * l ∧ l * l ≤ 27878400) ∧ (0 ≤ l * l * n ∧ l * l * n ≤ 1784217600) ∧ 0 ≤ l * l * n * n ∧ l * l * n * n ≤ 114189926400 := by
  have h1 := mul_in hS ht
  have h2 := mul_in h1 ht
  have h3 := mul_in (x := l) (y := l) ⟨by omega, hl.2⟩ ⟨by omega, hl.2⟩
  have h4 := mul_in (x := l * l) (y := n) h3 ⟨by omega, hn.2⟩
  have h5 := mul_in (x := l * l * n) (y := n) h4 ⟨by omega, hn.2⟩
  exact ⟨⟨h1, h2⟩, h3, h4, h5⟩

theorem i_withinStep (a b c d n s : Int) (w : World) (h : SpotP a b) (h' : SpotP c d) (hn : 1 ≤ n ∧ n ≤ 64) (hs : 1 ≤ s ∧ s ≤ 24) :
    Calls Try.prog 30 #[.agg #[.int .i64 a, .int .i64 b, .int .i64 c, .int .i64 d, .int .i64 n], .int .i64 s] w (Tells (WithinP a b c d n s) w) := by
  obtain ⟨h1, h2, h3⟩ := within_bd hs hn
  have h4 := sq_bd h h'
  go_enter Try.func30, Try.ntmps30
  go_wp2_with (first | (go_at_call 55; refine (i_squareOf _ _ _ _ _ h h').mono ?_; rintro e w' ⟨rfl, hb⟩; have hc := hb.cells; have hf := hb.frozens; have hz := hb.size; (try simp at hz); (try have hz0 : w.heap.size < w'.heap.size := (by omega)); (try have hz1 : w.heap.size + 1 < w'.heap.size := (by omega)); (try have hz2 : w.heap.size + 2 < w'.heap.size := (by omega)); (try have hz3 : w.heap.size + 3 < w'.heap.size := (by omega)); (try have hz4 : w.heap.size + 4 < w'.heap.size := (by omega)); (try have hz5 : w.heap.size + 5 < w'.heap.size := (by omega))) | ((with_reducible refine wp_region_gw (by kernel_rfl) (by kernel_rfl) ?_); have hcq := @GwOf.cell; (repeat (go_big_quiet_step ((go_at_call 55; exact GwOf.call (i_squareOf _ _ _ _ _ h h'))))); refine wpQuiet_nil ?_; clear hcq; rintro w' ⟨⟨w', hb⟩, rfl⟩; (try dsimp only); have hc := hb.cells; have hf := hb.frozens; have hz := hb.size; (try simp at hz); (try have hz0 : w.heap.size < w'.heap.size := (by omega)); (try have hz1 : w.heap.size + 1 < w'.heap.size := (by omega)); (try have hz2 : w.heap.size + 2 < w'.heap.size := (by omega)); (try have hz3 : w.heap.size + 3 < w'.heap.size := (by omega)); (try have hz4 : w.heap.size + 4 < w'.heap.size := (by omega)); (try have hz5 : w.heap.size + 5 < w'.heap.size := (by omega))))
  all_goals
    go_ret
    exact tells_of (by first | (simp; done) | (simp; omega) | omega) (by (repeat (first | with_reducible exact Gw.refl _ | with_reducible assumption | ((with_reducible refine Gw.set ?_ ?_ _); rotate_left; (focus (first | (simp; done) | (simp; omega) | omega))) | with_reducible refine Gw.alloc ?_ _ | with_reducible refine Gw.drew ?_ | with_reducible refine Gw.drewN ?_ _ | (refine Gw.trans ?_ (by with_reducible assumption)))))

theorem s_mvWithin (a b c d n s : Int) (w : World) (h : SpotP a b) (h' : SpotP c d) (hn : 1 ≤ n ∧ n ≤ 64) (hs : 1 ≤ s ∧ s ≤ 24) :
    Calls Try.prog 35 #[.agg #[.int .i64 a, .int .i64 b, .int .i64 c, .int .i64 d, .int .i64 n], .int .i64 s] w (Tells (WithinP a b c d n s) w) := by
  obtain ⟨h1, h2, h3⟩ := within_bd hs hn
  have h4 := sq_bd h h'
  go_enter Try.func35, Try.ntmps35
  go_wp2_with (first | (go_at_call 37; refine (s_stSquare _ _ _ _ _ h h').mono ?_; rintro e w' ⟨rfl, hb⟩; have hc := hb.cells; have hf := hb.frozens; have hz := hb.size; (try simp at hz); (try have hz0 : w.heap.size < w'.heap.size := (by omega)); (try have hz1 : w.heap.size + 1 < w'.heap.size := (by omega)); (try have hz2 : w.heap.size + 2 < w'.heap.size := (by omega)); (try have hz3 : w.heap.size + 3 < w'.heap.size := (by omega)); (try have hz4 : w.heap.size + 4 < w'.heap.size := (by omega)); (try have hz5 : w.heap.size + 5 < w'.heap.size := (by omega))) | ((with_reducible refine wp_region_gw (by kernel_rfl) (by kernel_rfl) ?_); have hcq := @GwOf.cell; (repeat (go_big_quiet_step ((go_at_call 37; exact GwOf.call (s_stSquare _ _ _ _ _ h h'))))); refine wpQuiet_nil ?_; clear hcq; rintro w' ⟨⟨w', hb⟩, rfl⟩; (try dsimp only); have hc := hb.cells; have hf := hb.frozens; have hz := hb.size; (try simp at hz); (try have hz0 : w.heap.size < w'.heap.size := (by omega)); (try have hz1 : w.heap.size + 1 < w'.heap.size := (by omega)); (try have hz2 : w.heap.size + 2 < w'.heap.size := (by omega)); (try have hz3 : w.heap.size + 3 < w'.heap.size := (by omega)); (try have hz4 : w.heap.size + 4 < w'.heap.size := (by omega)); (try have hz5 : w.heap.size + 5 < w'.heap.size := (by omega))))
  all_goals
    go_ret
    exact tells_of (by first | (simp; done) | (simp; omega) | omega) (by (repeat (first | with_reducible exact Gw.refl _ | with_reducible assumption | ((with_reducible refine Gw.set ?_ ?_ _); rotate_left; (focus (first | (simp; done) | (simp; omega) | omega))) | with_reducible refine Gw.alloc ?_ _ | with_reducible refine Gw.drew ?_ | with_reducible refine Gw.drewN ?_ _ | (refine Gw.trans ?_ (by with_reducible assumption)))))

theorem i_tooFast (a b c d n t l : Int) (w : World) (h : SpotP a b) (h' : SpotP c d) (hn : 1 ≤ n ∧ n ≤ 64) (ht : 0 ≤ t ∧ t ≤ 220) (hl : 40 ≤ l ∧ l ≤ 5280) :
    Calls Try.prog 31 #[.agg #[.int .i64 a, .int .i64 b, .int .i64 c, .int .i64 d, .int .i64 n], .int .i64 t, .int .i64 l] w (Tells (FastP a b c d n t l) w) := by
  have h4 := sq_bd h h'
  obtain ⟨⟨h1, h2⟩, h3, h5, h6⟩ := fast_bd h4 ht hl hn
  go_enter Try.func31, Try.ntmps31
  go_wp2_with (first | (go_at_call 55; refine (i_squareOf _ _ _ _ _ h h').mono ?_; rintro e w' ⟨rfl, hb⟩; have hc := hb.cells; have hf := hb.frozens; have hz := hb.size; (try simp at hz); (try have hz0 : w.heap.size < w'.heap.size := (by omega)); (try have hz1 : w.heap.size + 1 < w'.heap.size := (by omega)); (try have hz2 : w.heap.size + 2 < w'.heap.size := (by omega)); (try have hz3 : w.heap.size + 3 < w'.heap.size := (by omega)); (try have hz4 : w.heap.size + 4 < w'.heap.size := (by omega)); (try have hz5 : w.heap.size + 5 < w'.heap.size := (by omega))) | ((with_reducible refine wp_region_gw (by kernel_rfl) (by kernel_rfl) ?_); have hcq := @GwOf.cell; (repeat (go_big_quiet_step ((go_at_call 55; exact GwOf.call (i_squareOf _ _ _ _ _ h h'))))); refine wpQuiet_nil ?_; clear hcq; rintro w' ⟨⟨w', hb⟩, rfl⟩; (try dsimp only); have hc := hb.cells; have hf := hb.frozens; have hz := hb.size; (try simp at hz); (try have hz0 : w.heap.size < w'.heap.size := (by omega)); (try have hz1 : w.heap.size + 1 < w'.heap.size := (by omega)); (try have hz2 : w.heap.size + 2 < w'.heap.size := (by omega)); (try have hz3 : w.heap.size + 3 < w'.heap.size := (by omega)); (try have hz4 : w.heap.size + 4 < w'.heap.size := (by omega)); (try have hz5 : w.heap.size + 5 < w'.heap.size := (by omega))))
  all_goals
    go_ret
    exact tells_of (by first | (simp; done) | (simp; omega) | omega) (by (repeat (first | with_reducible exact Gw.refl _ | with_reducible assumption | ((with_reducible refine Gw.set ?_ ?_ _); rotate_left; (focus (first | (simp; done) | (simp; omega) | omega))) | with_reducible refine Gw.alloc ?_ _ | with_reducible refine Gw.drew ?_ | with_reducible refine Gw.drewN ?_ _ | (refine Gw.trans ?_ (by with_reducible assumption)))))

theorem s_paFits (S n t l : Int) (w : World) (hS : 0 ≤ S ∧ S ≤ 2089984) (hn : 1 ≤ n ∧ n ≤ 64) (ht : 0 ≤ t ∧ t ≤ 220) (hl : 40 ≤ l ∧ l ≤ 5280) :
    Calls Try.prog 36 #[.int .i64 S, .int .i64 n, .int .i64 t, .int .i64 l] w (TellsQ (S * t * t ≤ l * l * n * n) w) := by
  obtain ⟨⟨h1, h2⟩, h3, h5, h6⟩ := fast_bd hS ht hl hn
  go_enter Try.func36, Try.ntmps36
  go_wp2
  all_goals
    go_ret
    exact tellsQ_of (by first | (simp; done) | (simp; omega) | omega)

def speedOf (a b : Int) : Int × Int × Bool := if PaceP a b then ((low (a * b) 60).1, (low (a * b) 60).2, true) else (0, 0, false)

end Go.Proofs.Ythokcddabgojgaa
