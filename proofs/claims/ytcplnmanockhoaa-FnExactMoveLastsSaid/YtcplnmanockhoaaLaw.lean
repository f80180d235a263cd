/-
  Small lemmas for the laws' own walks: which row is written, which rows stay.
-/
import Derived.Test.YtcplnmanockhoaaList
namespace Go.Proofs.Ytcplnmanockhoaa
open Go.RowKit

theorem lt_of_own {w : World} {base : Nat} {e : TypeId} {size n : Nat} {v : Value} {xs : List Value} (h : w.ownsRow base e size v n xs) : ∀ k, v.ownBlock = some k → base ≤ k ∧ k < w.heap.size := h.lt
theorem own_mark {w w' : World} {base a1 b1 a2 b2 : Nat} {e : TypeId} {size n : Nat} {v v2 : Value} {xs : List Value} (h : w.ownsRow base e size v n xs) (hg : w.grownBy w' v2.ownBlock)
    (h1 : ∀ k, v.ownBlock = some k → a1 ≤ k ∧ k < b1) (h2 : ∀ k, v2.ownBlock = some k → a2 ≤ k ∧ k < b2) (hd : b1 ≤ a2 ∨ b2 ≤ a1) : w'.ownsRow base e size v n xs := by
  refine h.kept hg ?_
  cases hv : v.ownBlock with
  | none => exact .inl rfl
  | some k =>
    refine .inr fun he => ?_
    have q1 := h1 k hv
    have q2 := h2 k he.symm
    omega

end Go.Proofs.Ytcplnmanockhoaa
