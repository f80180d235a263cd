/-
  An hours table and open places.
-/
import Derived.Test.YtipndibiioajmaaHourI
import Derived.Test.YtipndibiioajmaaOpen
namespace Go.Proofs.Ytipndibiioajmaa
open Go.RowKit

theorem tabOf_open {W : List W3} {p h : Nat} : tabOf W p h = true ↔ openP W (p : Int) (h : Int) := by
  unfold tabOf openP
  rw [List.any_eq_true]
  simp only [decide_eq_true_eq]
end Go.Proofs.Ytipndibiioajmaa
