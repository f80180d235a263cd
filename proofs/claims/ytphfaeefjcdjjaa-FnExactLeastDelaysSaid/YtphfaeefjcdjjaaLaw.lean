/-
  Small lemmas for the laws' own walks: which row is written, which rows stay.
-/
import Derived.Test.YtphfaeefjcdjjaaList
namespace Go.Proofs.Ytphfaeefjcdjjaa
open Go.RowKit

theorem lt_of_own {w : World} {base : Nat} {e : TypeId} {size n : Nat} {v : Value} {xs : List Value} (h : w.ownsRow base e size v n xs) : ∀ k, v.ownBlock = some k → base ≤ k ∧ k < w.heap.size := h.lt
theorem own_mark {w w' : World} {base a1 b1 a2 b2 : Nat} {e : TypeId} {size n : Nat} {v v2 : Value} {xs : List Value} (h : w.ownsRow base e size v n xs) (hg : w.grownBy w' v2.ownBlock)
    (h1 : ∀ k, v.ownBlock = some k → a1 ≤ k ∧ k < b1) (h2 : ∀ k, v2.ownBlock = some k → a2 ≤ k ∧ k < b2) (hd : b1 ≤ a2 ∨ b2 ≤ a1) : w'.ownsRow base e size v n xs := by
  refine h.kept hg ?_
  cases hv : v.ownBlock with
  | none => exact .inl rfl
  | some k =>
    refine .inr fun he => ?_
    have q1 := h1 k hv
    have q2 := h2 k he.symm
    omega

/-- What a loop over pairs has seen: of each element against those before it. -/
def PairTo {α : Type} (R : α → α → Prop) (l : List α) (k : Nat) : Prop := ∀ (i j : Nat) (x y : α), i < k → j < i → l[i]? = some x → l[j]? = some y → R x y
theorem PairTo.zero {α : Type} {R : α → α → Prop} {l : List α} : PairTo R l 0 := fun _ _ _ _ h => absurd h (by omega)
theorem PairTo.succ {α : Type} {R : α → α → Prop} {l : List α} {k : Nat} {x : α} (h : PairTo R l k) (hx : l[k]? = some x) (hp : AllTo (R x) l k) : PairTo R l (k + 1) := by
  intro i j a b hi hj ha hb
  by_cases e : i = k
  · subst e
    rw [hx] at ha
    cases ha
    exact hp j b hj hb
  · exact h i j a b (by omega) hj ha hb
theorem PairTo.all {α : Type} {R : α → α → Prop} {l : List α} {k : Nat} (h : PairTo R l k) (hk : l.length ≤ k) : ∀ (i j : Nat) (x y : α), j < i → l[i]? = some x → l[j]? = some y → R x y :=
  fun i j x y hj hx hy => h i j x y (by have := (List.getElem?_eq_some_iff.1 hx).1; omega) hj hx hy
theorem ret_lb {α : Type} {k : List α × Bool} {A : Option Addr} {c : Nat} {l : List α} {b : Bool} (h : k = (l, b)) : Ending.returned (.tuple #[.slice A l.length c, .bool b]) = .returned (.tuple #[.slice A k.1.length c, .bool k.2]) := by rw [h]
theorem drop_of' {α : Type} {l : List α} {k : Nat} {x : α} (h : l[k]? = some x) : l.drop k = x :: l.drop (k + 1) := by
  obtain ⟨hk, rfl⟩ := List.getElem?_eq_some_iff.1 h
  exact List.drop_eq_getElem_cons hk

end Go.Proofs.Ytphfaeefjcdjjaa
