/-
  Greatest common divisors and fractions in lowest terms.
-/
import Derived.Test.YtbhkcbfmlniamaaDoorProg
import Derived.Test.YtbhkcbfmlniamaaDoorKit
namespace Go.Proofs.YtbhkcbfmlniamaaDoor
open Go.RowKit

theorem gcd_step (x y : Int) (hx : 0 ≤ x) (hy : 0 < y) : Int.gcd y (x % y) = Int.gcd x y := by
  obtain ⟨m, rfl⟩ := Int.eq_ofNat_of_zero_le hx
  obtain ⟨n, rfl⟩ := Int.eq_ofNat_of_zero_le (Int.le_of_lt hy)
  rw [← Int.natCast_emod, Int.gcd_natCast_natCast, Int.gcd_natCast_natCast, Nat.gcd_comm m n, Nat.gcd_rec n m, Nat.gcd_comm]
theorem gcd_pos_of (a b : Int) (hb : 0 < b) : 0 < (Int.gcd a b : Int) := by
  have : 0 < Int.gcd a b := Int.gcd_pos_of_ne_zero_right _ (by omega)
  omega
theorem gcd_zero_of (x : Int) (hx : 0 ≤ x) : (Int.gcd x 0 : Int) = x := by
  rw [Int.gcd_zero_right]; omega

/-- A fraction in lowest terms. -/
def low (a b : Int) : Int × Int := (a / Int.gcd a b, b / Int.gcd a b)

end Go.Proofs.YtbhkcbfmlniamaaDoor
