/-
  Greatest common divisors and fractions in lowest terms.
-/
import Derived.Test.YtphfaeefjcdjjaaProg
import Derived.Test.YtphfaeefjcdjjaaKit
namespace Go.Proofs.Ytphfaeefjcdjjaa
open Go.RowKit

theorem gcd_step (x y : Int) (hx : 0 ≤ x) (hy : 0 < y) : Int.gcd y (x % y) = Int.gcd x y := by
  obtain ⟨m, rfl⟩ := Int.eq_ofNat_of_zero_le hx
  obtain ⟨n, rfl⟩ := Int.eq_ofNat_of_zero_le (Int.le_of_lt hy)
  rw [← Int.natCast_emod, Int.gcd_natCast_natCast, Int.gcd_natCast_natCast, Nat.gcd_comm m n, Nat.gcd_rec n m, Nat.gcd_comm]
theorem gcd_pos_of (a b : Int) (hb : 0 < b) : 0 < (Int.gcd a b : Int) := by
  have : 0 < Int.gcd a b := Int.gcd_pos_of_ne_zero_right _ (by omega)
  omega
theorem gcd_zero_of (x : Int) (hx : 0 ≤ x) : (Int.gcd x 0 : Int) = x := by
  rw [Int.gcd_zero_right]; omega

/-- A fraction in lowest terms. -/
def low (a b : Int) : Int × Int := (a / Int.gcd a b, b / Int.gcd a b)

theorem s_l1Abs (a : Int) (w : World) (h1 : 0 ≤ a) (h2 : a ≤ 10000000000000000) :
    Calls Try.prog 65 #[.int .i64 a] w fun e w' => e = .returned (.int .i64 a) ∧ w = w' := by
  go_enter Try.func65, Try.ntmps65
  go_wp2
  all_goals
    go_ret
    exact ⟨ret_int (by omega), rfl⟩

set_option maxHeartbeats 400000 in
theorem s_mvPart (a b : Int) (w : World) (ha : 0 ≤ a) (ha' : a ≤ 10000000000000000) (hb : 1 ≤ b) (hb' : b ≤ 10000000000000000) :
    Calls Try.prog 63 #[.int .i64 a, .int .i64 b] w fun e w' => e = .returned (.tuple #[.int .i64 (low a b).1, .int .i64 (low a b).2]) ∧ Gw w w' := by
  go_enter Try.func63, Try.ntmps63
  go_wp2_with (go_at_call 65; refine (s_l1Abs _ _ (by omega) (by omega)).mono ?_; rintro e w' ⟨rfl, rfl⟩)
  go_loop [6, 7, 8] (fun x y _ => ∃ m n : Int, x = .int .i64 m ∧ y = .int .i64 n ∧ 0 ≤ m ∧ 0 ≤ n ∧ m ≤ 10000000000000000 ∧ n ≤ 10000000000000000 ∧ 0 < m + n ∧ Hid (Int.gcd m n = Int.gcd a b)) (fun _ y _ => (intOf y).toNat)
  case atStart => exact ⟨a, b, rfl, rfl, ha, by omega, ha', hb', by omega, rfl⟩
  case round =>
    obtain ⟨m, n, rfl, rfl, hm, hn, hm', hn', hpos, hg⟩ := hrel
    by_cases h0 : 0 < n
    · have hmod1 := Int.emod_nonneg m (show n ≠ 0 by omega)
      have hmod2 := Int.emod_lt_of_pos m h0
      have hg' : Hid (Int.gcd n (m % n) = Int.gcd a b) := (gcd_step m n hm h0).trans hg.out
      go_wp2
      go_round
      case rel => exact ⟨n, m % n, rfl, rfl, hn, hmod1, hn', by omega, by omega, hg'⟩
      case measure => simp [intOf]; omega
    · obtain rfl : n = 0 := by omega
      have hgm : Hid ((Int.gcd a b : Int) = m) := by rw [← hg.out]; exact gcd_zero_of m hm
      go_wp2_with ((with_reducible refine wp_region_gw (by kernel_rfl) (by kernel_rfl) ?_); have hcq := @GwOf.cell; (repeat (go_big_quiet_step (fail))); refine wpQuiet_nil ?_; clear hcq; rintro w' ⟨⟨w', hb⟩, rfl⟩; (try dsimp only); have hc := hb.cells; have hf := hb.frozens; have hz := hb.size; (try simp at hz); (try have hz0 : w.heap.size < w'.heap.size := (by omega)); (try have hz1 : w.heap.size + 1 < w'.heap.size := (by omega)); (try have hz2 : w.heap.size + 2 < w'.heap.size := (by omega)); (try have hz3 : w.heap.size + 3 < w'.heap.size := (by omega)); (try have hz4 : w.heap.size + 4 < w'.heap.size := (by omega)); (try have hz5 : w.heap.size + 5 < w'.heap.size := (by omega)))
      go_ret2
      exact ⟨ret_ii (f := low a b) (by unfold low; rw [hgm.out]), by (repeat (first | with_reducible exact Gw.refl _ | with_reducible assumption | ((with_reducible refine Gw.set ?_ ?_ _); rotate_left; (focus (first | (simp; done) | (simp; omega) | omega))) | with_reducible refine Gw.alloc ?_ _ | with_reducible refine Gw.drew ?_ | with_reducible refine Gw.drewN ?_ _ | (refine Gw.trans ?_ (by with_reducible assumption))))⟩

set_option maxHeartbeats 400000 in
theorem i_gcdOf (a b : Int) (w : World) (ha : 0 ≤ a) (ha' : a ≤ 10000000000000000) (hb : 1 ≤ b) (hb' : b ≤ 10000000000000000) :
    Calls Try.prog 58 #[.int .i64 a, .int .i64 b] w fun e w' => e = .returned (.int .i64 (Int.gcd a b)) ∧ Gw w w' := by
  go_enter Try.func58, Try.ntmps58
  go_wp2
  all_goals
    go_loopw [0, 1] (fun x y wr => ∃ m n : Int, x = .int .i64 m ∧ y = .int .i64 n ∧ 0 ≤ m ∧ 0 ≤ n ∧ m ≤ 10000000000000000 ∧ n ≤ 10000000000000000 ∧ 0 < m + n ∧ Hid (Int.gcd m n = Int.gcd a b) ∧ Gw w wr) (fun _ y _ => (intOf y).toNat)
    case atStart => exact ⟨a, b, by go_num, by go_num, ha, by omega, ha', hb', by omega, rfl, Gw.refl _⟩
    case round =>
      obtain ⟨m, n, rfl, rfl, hm, hn, hm', hn', hpos, hg, hgw⟩ := hrel
      by_cases h0 : 0 < n
      · have hmod1 := Int.emod_nonneg m (show n ≠ 0 by omega)
        have hmod2 := Int.emod_lt_of_pos m h0
        have hg' : Hid (Int.gcd n (m % n) = Int.gcd a b) := (gcd_step m n hm h0).trans hg.out
        go_wp2_with ((with_reducible refine wp_region_gw (by kernel_rfl) (by kernel_rfl) ?_); have hcq := @GwOf.cell; (repeat (go_big_quiet_step (fail))); refine wpQuiet_nil ?_; clear hcq; rintro w' ⟨⟨w', hb⟩, rfl⟩; (try dsimp only); have hc := hb.cells; have hf := hb.frozens; have hz := hb.size; (try simp at hz); (try have hz0 : w.heap.size < w'.heap.size := (by omega)); (try have hz1 : w.heap.size + 1 < w'.heap.size := (by omega)); (try have hz2 : w.heap.size + 2 < w'.heap.size := (by omega)); (try have hz3 : w.heap.size + 3 < w'.heap.size := (by omega)); (try have hz4 : w.heap.size + 4 < w'.heap.size := (by omega)); (try have hz5 : w.heap.size + 5 < w'.heap.size := (by omega)))
        go_roundw
        case rel => exact ⟨n, m % n, rfl, rfl, hn, hmod1, hn', by omega, by omega, hg', by (repeat (first | with_reducible exact Gw.refl _ | with_reducible assumption | ((with_reducible refine Gw.set ?_ ?_ _); rotate_left; (focus (first | (simp; done) | (simp; omega) | omega))) | with_reducible refine Gw.alloc ?_ _ | with_reducible refine Gw.drew ?_ | with_reducible refine Gw.drewN ?_ _ | (refine Gw.trans ?_ (by with_reducible assumption))))⟩
        case measure => simp [intOf]; omega
      · obtain rfl : n = 0 := by omega
        have hgm : Hid ((Int.gcd a b : Int) = m) := by rw [← hg.out]; exact gcd_zero_of m hm
        go_wp2
        go_ret
        exact ⟨ret_int hgm.out.symm, by (repeat (first | with_reducible exact Gw.refl _ | with_reducible assumption | ((with_reducible refine Gw.set ?_ ?_ _); rotate_left; (focus (first | (simp; done) | (simp; omega) | omega))) | with_reducible refine Gw.alloc ?_ _ | with_reducible refine Gw.drew ?_ | with_reducible refine Gw.drewN ?_ _ | (refine Gw.trans ?_ (by with_reducible assumption))))⟩

set_option maxHeartbeats 400000 in
theorem i_lowestTerms (a b : Int) (w : World) (ha : 0 ≤ a) (ha' : a ≤ 10000000000000000) (hb : 1 ≤ b) (hb' : b ≤ 10000000000000000) :
    Calls Try.prog 53 #[.int .i64 a, .int .i64 b] w fun e w' => e = .returned (.tuple #[.int .i64 (low a b).1, .int .i64 (low a b).2]) ∧ Gw w w' := by
  have hgp := gcd_pos_of a b (by omega)
  obtain ⟨g, hg⟩ : ∃ g : Int, (Int.gcd a b : Int) = g := ⟨_, rfl⟩
  rw [hg] at hgp
  have Hg : Hid ((Int.gcd a b : Int) = g) := hg
  clear hg
  go_enter Try.func53, Try.ntmps53
  go_wp2_with (first | (go_at_call 58; refine (i_gcdOf _ _ _ (by omega) (by omega) (by omega) (by omega)).mono ?_; rw [Hg.out]; rintro e w' ⟨rfl, hb⟩) | ((with_reducible refine wp_region_gw (by kernel_rfl) (by kernel_rfl) ?_); have hcq := @GwOf.cell; (repeat (go_big_quiet_step (fail))); refine wpQuiet_nil ?_; clear hcq; rintro w' ⟨⟨w', hb⟩, rfl⟩; (try dsimp only); have hc := hb.cells; have hf := hb.frozens; have hz := hb.size; (try simp at hz); (try have hz0 : w.heap.size < w'.heap.size := (by omega)); (try have hz1 : w.heap.size + 1 < w'.heap.size := (by omega)); (try have hz2 : w.heap.size + 2 < w'.heap.size := (by omega)); (try have hz3 : w.heap.size + 3 < w'.heap.size := (by omega)); (try have hz4 : w.heap.size + 4 < w'.heap.size := (by omega)); (try have hz5 : w.heap.size + 5 < w'.heap.size := (by omega))))
  go_ret2
  exact ⟨ret_ii (f := low a b) (by unfold low; rw [Hg.out]), by (repeat (first | with_reducible exact Gw.refl _ | with_reducible assumption | ((with_reducible refine Gw.set ?_ ?_ _); rotate_left; (focus (first | (simp; done) | (simp; omega) | omega))) | with_reducible refine Gw.alloc ?_ _ | with_reducible refine Gw.drew ?_ | with_reducible refine Gw.drewN ?_ _ | (refine Gw.trans ?_ (by with_reducible assumption))))⟩

end Go.Proofs.Ytphfaeefjcdjjaa
