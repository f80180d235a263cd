/-
  The least square of two moves with delays: both walks.
-/
import Derived.Test.YtphfaeefjcdjjaaDlB
namespace Go.Proofs.Ytphfaeefjcdjjaa
open Go.RowKit
set_option linter.unusedVariables false

theorem sq_self_bd {x m : Int} (h : -m ≤ x) (h' : x ≤ m) : 0 ≤ x * x ∧ x * x ≤ m * m := by
  rcases Int.le_total 0 x with h0 | h0
  · exact ⟨Int.mul_nonneg h0 h0, Int.mul_le_mul h' h' h0 (by omega)⟩
  · have h1 := Int.mul_nonneg (show 0 ≤ -x by omega) (show 0 ≤ -x by omega)
    have := Int.mul_le_mul (show -x ≤ m by omega) (show -x ≤ m by omega) (by omega) (by omega)
    rw [Int.neg_mul_neg] at this h1
    exact ⟨h1, this⟩
/-- The way between two performers along one axis after a count. -/
def dX (a c a' c' n p q : Int) (k : Nat) : Int := atD a c n (tD n p k) - atD a' c' n (tD n q k)
theorem dX_bd {a c a' c' n p q M : Int} (hM : 0 ≤ M) (ha : 0 ≤ a ∧ a ≤ M) (hc : 0 ≤ c ∧ c ≤ M) (ha' : 0 ≤ a' ∧ a' ≤ M) (hc' : 0 ≤ c' ∧ c' ≤ M) (hn : 1 ≤ n ∧ n ≤ 16) (k : Nat) :
    (-(M * 16) ≤ dX a c a' c' n p q k ∧ dX a c a' c' n p q k ≤ M * 16) ∧ -(2 * M) ≤ dX a c a' c' n p q (k + 1) - dX a c a' c' n p q k ∧ dX a c a' c' n p q (k + 1) - dX a c a' c' n p q k ≤ 2 * M := by
  have h1 := atD_bd (t := tD n p k) hM ha hc hn.2 (tD_bd (by omega))
  have h2 := atD_bd (t := tD n q k) hM ha' hc' hn.2 (tD_bd (by omega))
  have e : ((k + 1 : Nat) : Int) = (k : Int) + 1 := by omega
  have h3 := atD_step (n := n) ha hc (tD_step n p k (by omega))
  have h4 := atD_step (n := n) ha' hc' (tD_step n q k (by omega))
  unfold dX
  rw [e]
  omega
/-- What the numbers of one part of the way are. -/
theorem part_bd {x y u v : Int} (h1 : -20480 ≤ x ∧ x ≤ 20480) (h2 : -10752 ≤ y ∧ y ≤ 10752) (h5 : -2560 ≤ u - x ∧ u - x ≤ 2560) (h6 : -1344 ≤ v - y ∧ v - y ≤ 1344) :
    (-52428800 ≤ x * (u - x) ∧ x * (u - x) ≤ 52428800) ∧ (-14450688 ≤ y * (v - y) ∧ y * (v - y) ≤ 14450688) ∧ (0 ≤ (u - x) * (u - x) ∧ (u - x) * (u - x) ≤ 6553600) ∧ (0 ≤ (v - y) * (v - y) ∧ (v - y) * (v - y) ≤ 1806336) ∧
    (-27525120 ≤ x * (v - y) ∧ x * (v - y) ≤ 27525120) ∧ (-27525120 ≤ y * (u - x) ∧ y * (u - x) ≤ 27525120) ∧
    0 ≤ (x * (v - y) - y * (u - x)) * (x * (v - y) - y * (u - x)) ∧ (x * (v - y) - y * (u - x)) * (x * (v - y) - y * (u - x)) ≤ 3030528924057600 := by
  have m1 := pm (A := 20480) (B := 2560) (a := x) (b := u - x) (by omega) (by omega)
  have m2 := pm (A := 10752) (B := 1344) (a := y) (b := v - y) (by omega) (by omega)
  have m3 := sq_self_bd (x := u - x) (m := 2560) (by omega) (by omega)
  have m4 := sq_self_bd (x := v - y) (m := 1344) (by omega) (by omega)
  have m5 := pm (A := 20480) (B := 1344) (a := x) (b := v - y) (by omega) (by omega)
  have m6 := pm (A := 10752) (B := 2560) (a := y) (b := u - x) (by omega) (by omega)
  have m7 := sq_self_bd (x := x * (v - y) - y * (u - x)) (m := 55050240) (by omega) (by omega)
  omega
theorem side_bd {x y : Int} (h1 : -20480 ≤ x ∧ x ≤ 20480) (h2 : -10752 ≤ y ∧ y ≤ 10752) : (0 ≤ x * x ∧ x * x ≤ 419430400) ∧ 0 ≤ y * y ∧ y * y ≤ 115605504 := by
  have m3 := sq_self_bd (x := x) (m := 20480) (by omega) (by omega)
  have m4 := sq_self_bd (x := y) (m := 10752) (by omega) (by omega)
  omega
theorem segI_bd {x y u v : Int} (h1 : -20480 ≤ x ∧ x ≤ 20480) (h2 : -10752 ≤ y ∧ y ≤ 10752) (h3 : -20480 ≤ u ∧ u ≤ 20480) (h4 : -10752 ≤ v ∧ v ≤ 10752) (h5 : -2560 ≤ u - x ∧ u - x ≤ 2560) (h6 : -1344 ≤ v - y ∧ v - y ≤ 1344) :
    (0 ≤ (segI x y u v).1 ∧ (segI x y u v).1 ≤ 10000000000000000) ∧ 1 ≤ (segI x y u v).2 ∧ (segI x y u v).2 ≤ 10000000 := by
  have hb := part_bd h1 h2 h5 h6
  have hs := side_bd h3 h4
  have hp := segI_pos x y u v
  have hn := segI_nn x y u v
  unfold segI at *
  split at hp <;> split at hn <;> split <;> dsimp only at * <;> omega
theorem segS_bd {x y u v : Int} (h1 : -20480 ≤ x ∧ x ≤ 20480) (h2 : -10752 ≤ y ∧ y ≤ 10752) (h3 : -20480 ≤ u ∧ u ≤ 20480) (h4 : -10752 ≤ v ∧ v ≤ 10752) (h5 : -2560 ≤ u - x ∧ u - x ≤ 2560) (h6 : -1344 ≤ v - y ∧ v - y ≤ 1344) :
    (0 ≤ (segS x y u v).1 ∧ (segS x y u v).1 ≤ 10000000000000000) ∧ 1 ≤ (segS x y u v).2 ∧ (segS x y u v).2 ≤ 10000000 := by
  have hb := part_bd h1 h2 h5 h6
  have hs := side_bd h3 h4
  have hs2 := side_bd h1 h2
  have hp := segS_pos x y u v
  have hn := segS_nn x y u v
  rw [cross_b] at hb
  unfold segS at *
  split at hp <;> split at hn <;> split <;> dsimp only at * <;> omega

set_option maxHeartbeats 2000000 in
theorem s_rpPart (x y u v : Int) (w : World) (h1 : -20480 ≤ x ∧ x ≤ 20480) (h2 : -10752 ≤ y ∧ y ≤ 10752) (h3 : -20480 ≤ u ∧ u ≤ 20480) (h4 : -10752 ≤ v ∧ v ≤ 10752) (h5 : -2560 ≤ u - x ∧ u - x ≤ 2560) (h6 : -1344 ≤ v - y ∧ v - y ≤ 1344) :
    Calls Try.prog 61 #[.int .i64 x, .int .i64 y, .int .i64 u, .int .i64 v] w fun e w' => e = .returned (.tuple #[.int .i64 (segS x y u v).1, .int .i64 (segS x y u v).2]) ∧ w = w' := by
  obtain ⟨b1, b2, b3, b4, b5, b6, b7⟩ := part_bd h1 h2 h5 h6
  obtain ⟨b8, b9⟩ := side_bd h1 h2
  obtain ⟨b10, b11⟩ := side_bd h3 h4
  have m1 := pm (A := 20480) (B := 10752) (a := x) (b := v) (by omega) (by omega)
  have m2 := pm (A := 10752) (B := 20480) (a := y) (b := u) (by omega) (by omega)
  rw [cross_b] at b7
  by_cases h : 0 < -(x * (u - x) + y * (v - y)) ∧ -(x * (u - x) + y * (v - y)) < (u - x) * (u - x) + (v - y) * (v - y)
  · have hs : Hid (segS x y u v = ((x * v - y * u) * (x * v - y * u), (u - x) * (u - x) + (v - y) * (v - y))) := by unfold Hid segS; rw [if_pos h]
    obtain ⟨g1, g2⟩ := h
    go_enter Try.func61, Try.ntmps61
    go_wp2_with fail
    go_ret2
    exact ⟨ret_ii hs.out, rfl⟩
  · have hs : Hid (segS x y u v = (min (x * x + y * y) (u * u + v * v), 1)) := by unfold Hid segS; rw [if_neg h]
    by_cases g1 : 0 < -(x * (u - x) + y * (v - y))
    · have g2 : ¬-(x * (u - x) + y * (v - y)) < (u - x) * (u - x) + (v - y) * (v - y) := fun g => h ⟨g1, g⟩
      clear h
      go_enter Try.func61, Try.ntmps61
      go_wp2_with (go_at_call 38; refine (s_l1Least _ _ _).mono ?_; rintro _ w1 ⟨rfl, rfl⟩)
      go_ret2
      exact ⟨ret_ii hs.out, rfl⟩
    · clear h
      go_enter Try.func61, Try.ntmps61
      go_wp2_with (go_at_call 38; refine (s_l1Least _ _ _).mono ?_; rintro _ w1 ⟨rfl, rfl⟩)
      go_ret2
      exact ⟨ret_ii hs.out, rfl⟩
end Go.Proofs.Ytphfaeefjcdjjaa
