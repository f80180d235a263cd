/-
  A field of a listed struct is set; what all elements of a list keep.
-/
import Derived.Test.YthokcddabgojgaaList
namespace Go.Proofs.Ythokcddabgojgaa
open Go.RowKit

theorem flat_consG {α : Type} [Flat α] (x : α) (l : List α) : flat (x :: l) = Flat.cells x ++ flat l := by simp [flat]
theorem flat_setG {α : Type} [Flat α] : ∀ (l : List α) (k j : Nat) (x y : α) (v : Value), l[k]? = some x → j < Flat.sz α → (Flat.cells x).set j v = Flat.cells y → (flat l).set (k * Flat.sz α + j) v = flat (l.set k y)
  | [], _, _, _, _, _, h, _, _ => by simp at h
  | z :: l, 0, j, x, y, v, h, hj, hy => by
    simp at h
    subst h
    rw [flat_consG, Nat.zero_mul, Nat.zero_add, List.set_append_left _ _ (by rw [Flat.len]; exact hj), hy, List.set_cons_zero, flat_consG]
  | z :: l, k + 1, j, x, y, v, h, hj, hy => by
    rw [flat_consG, List.set_append_right _ _ (by rw [Flat.len, Nat.add_mul]; omega), Flat.len, show (k + 1) * Flat.sz α + j - Flat.sz α = k * Flat.sz α + j by rw [Nat.add_mul]; omega,
      flat_setG l k j x y v (by simpa using h) hj hy, List.set_cons_succ, flat_consG]
theorem own_setG {α : Type} [Flat α] {w : World} {base : Nat} {e : TypeId} {n c g k : Nat} {l : List α} {x : α} (h : w.ownsRow base e (Flat.sz α) (.slice (some ⟨g, 0, none⟩) n c) n (flat l)) (hx : l[k]? = some x) (j : Nat) (y : α) (v : Value) (hj : j < Flat.sz α) (hy : (Flat.cells x).set j v = Flat.cells y) :
    (w.setCell ⟨g, k * Flat.sz α + j, none⟩ v).ownsRow base e (Flat.sz α) (.slice (some ⟨g, 0, none⟩) n c) n (flat (l.set k y)) ∧ w.grownBy (w.setCell ⟨g, k * Flat.sz α + j, none⟩ v) (some g) := by
  have h1 := World.ownsRow.stored h (k * Flat.sz α + j) v
  rw [flat_setG l k j x y v hx hj hy] at h1
  exact h1
theorem all_nil {α : Type} {P : α → Prop} : ∀ x ∈ ([] : List α), P x := fun x h => by simp at h
theorem all_snoc {α : Type} {P : α → Prop} {l : List α} {x : α} (h : ∀ x ∈ l, P x) (hx : P x) : ∀ y ∈ l ++ [x], P y := by
  intro y hy
  rcases List.mem_append.1 hy with hy | hy
  · exact h y hy
  · simp at hy; subst hy; exact hx
theorem all_set {α : Type} {P : α → Prop} {l : List α} (h : ∀ x ∈ l, P x) (k : Nat) {x : α} (hx : P x) : ∀ y ∈ l.set k x, P y := by
  intro y hy
  rcases List.mem_or_eq_of_mem_set hy with hy | rfl
  · exact h y hy
  · exact hx
/-- The cells of an element of a list of the call's own. -/
theorem own_cellsG {α : Type} [Flat α] {w : World} {base : Nat} {e : TypeId} {n c g k : Nat} {l : List α} {x : α} (hn : l.length = n) (h : w.ownsRow base e (Flat.sz α) (.slice (some ⟨g, 0, none⟩) n c) n (flat l)) (hx : l[k]? = some x) : CellsAt w g (k * Flat.sz α) (Flat.cells x) := by
  subst hn
  obtain ⟨b, off, hA, hb, hc⟩ := (own_rd h).get hx
  simp only [Option.some.injEq, Addr.mk.injEq, and_true] at hA
  obtain ⟨rfl, rfl⟩ := hA
  simpa using hc
end Go.Proofs.Ythokcddabgojgaa
