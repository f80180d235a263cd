/-
  A callee that tells a bool, for an exact law: the bool is one term for both sides.
-/
import Derived.Test.YtphfaeefjcdjjaaKit
import Derived.Deep.RegionHeld3
namespace Go.Proofs.Ytphfaeefjcdjjaa
open Go.RowKit

theorem bool_of (p : Prop) : ∃ b : Bool, b = true ↔ p := by
  by_cases h : p
  · exact ⟨true, by simp [h]⟩
  · exact ⟨false, by simp [h]⟩
theorem tells_bool {p : Prop} {b : Bool} {w : World} (hb : b = true ↔ p) : ∀ e w', Tells p w e w' → e = .returned (.bool b) ∧ Gw w w' := by
  rintro e w' (⟨hp, rfl, h⟩ | ⟨hp, rfl, h⟩)
  · rw [hb.2 hp]; exact ⟨rfl, h⟩
  · cases b with
    | true => exact absurd (hb.1 rfl) hp
    | false => exact ⟨rfl, h⟩
theorem tellsQ_bool {p : Prop} {b : Bool} {w : World} (hb : b = true ↔ p) : ∀ e w', TellsQ p w e w' → e = .returned (.bool b) ∧ Gw w w' := by
  rintro e w' (⟨hp, rfl, rfl⟩ | ⟨hp, rfl, rfl⟩)
  · rw [hb.2 hp]; exact ⟨rfl, Gw.refl _⟩
  · cases b with
    | true => exact absurd (hb.1 rfl) hp
    | false => exact ⟨rfl, Gw.refl _⟩
theorem TellsQ.tells {p : Prop} {w : World} {e : Ending} {w' : World} (h : TellsQ p w e w') : Tells p w e w' := by
  rcases h with ⟨hp, rfl, rfl⟩ | ⟨hp, rfl, rfl⟩
  · exact .inl ⟨hp, rfl, Gw.refl _⟩
  · exact .inr ⟨hp, rfl, Gw.refl _⟩
theorem box_cell {w u : World} {cs : Array Value} {t : TypeId} {v : Value} {j : Nat} (hu : Gw (w.alloc (.cells cs t)) u) (hj : cs[j]? = some v) : u.cell? ⟨w.heap.size, j, none⟩ = some v := by
  rw [hu.cells w.heap.size j (by simp), cell_of_row _ _ _ _ _ _ (heap_alloc_new w (.cells cs t))]
  exact hj
end Go.Proofs.Ytphfaeefjcdjjaa
