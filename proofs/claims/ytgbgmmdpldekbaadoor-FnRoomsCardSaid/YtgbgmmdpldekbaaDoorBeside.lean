/-
  Lists of the call's own beside one another.
-/
import Derived.Test.YtgbgmmdpldekbaaDoorList
import Derived.Test.YtgbgmmdpldekbaaDoorStep
namespace Go.Proofs.YtgbgmmdpldekbaaDoor
open Go.RowKit

theorem own_apartE {w : World} {base base' s s' : Nat} {e e' : TypeId} {n n' : Nat} {v v' : Value} {xs xs' : List Value} (he : e ≠ e') (h : w.ownsRow base e s v n xs) (h' : w.ownsRow base' e' s' v' n' xs') {g : Nat} (hg : v.ownBlock = some g) : v'.ownBlock ≠ some g := by
  intro hg'
  rcases h.2 with ⟨rfl, _⟩ | ⟨g1, cap, cur, rfl, hb, hc, hc1, hm, hh⟩
  · simp [Value.ownBlock] at hg
  · rcases h'.2 with ⟨rfl, _⟩ | ⟨g2, cap', cur', rfl, hb', hc', hc1', hm', hh'⟩
    · simp [Value.ownBlock] at hg'
    · simp [Value.ownBlock] at hg hg'
      subst hg
      subst hg'
      simp_all
theorem own_beside {w w' : World} {base base' s s' : Nat} {e e' : TypeId} {n n' : Nat} {v v' : Value} {xs xs' : List Value} (he : e ≠ e') (h : w.ownsRow base e s v n xs) (h' : w.ownsRow base' e' s' v' n' xs') (hg : w.grownBy w' v'.ownBlock) : w'.ownsRow base e s v n xs := by
  refine h.kept hg ?_
  cases hv : v.ownBlock with
  | none => exact .inl rfl
  | some g => exact .inr fun heq => own_apartE he h h' hv heq.symm

theorem rdBox {α : Type} [Flat α] (w : World) (e : TypeId) (y : α) : Rd (w.alloc (.cells (Flat.cells y).toArray e)) (some ⟨w.heap.size, 0, none⟩) [y] := by
  intro _
  refine ⟨w.heap.size, 0, rfl, by simp, fun i z hz j u hu => ?_⟩
  cases i with
  | zero =>
    simp only [List.getElem?_cons_zero, Option.some.injEq] at hz
    subst hz
    rw [cell_of_row _ _ _ _ _ _ (heap_alloc_new w (.cells (Flat.cells y).toArray e))]
    simpa using hu
  | succ i => simp at hz
theorem own_cap {w : World} {base n c : Nat} {A : Option Addr} {e : TypeId} {size : Nat} {xs : List Value} (h : w.ownsRow base e size (.slice A n c) n xs) : n ≤ c ∧ c ≤ 9223372036854775807 := by
  obtain ⟨_, _, hv, hc, hc2, _⟩ := own_form h
  simp only [Value.slice.injEq, true_and] at hv
  obtain ⟨rfl, rfl⟩ := hv
  unfold maxLen at hc2
  omega

end Go.Proofs.YtgbgmmdpldekbaaDoor
