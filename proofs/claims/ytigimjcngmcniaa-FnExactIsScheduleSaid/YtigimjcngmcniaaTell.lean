/-
  A callee that tells a bool, for an exact law: the bool is one term for both sides.
-/
import Derived.Test.YtigimjcngmcniaaKit
namespace Go.Proofs.Ytigimjcngmcniaa
open Go.RowKit

theorem bool_of (p : Prop) : ∃ b : Bool, b = true ↔ p := by
  by_cases h : p
  · exact ⟨true, by simp [h]⟩
  · exact ⟨false, by simp [h]⟩
theorem tells_bool {p : Prop} {b : Bool} {w : World} (hb : b = true ↔ p) : ∀ e w', Tells p w e w' → e = .returned (.bool b) ∧ Gw w w' := by
  rintro e w' (⟨hp, rfl, h⟩ | ⟨hp, rfl, h⟩)
  · rw [hb.2 hp]; exact ⟨rfl, h⟩
  · cases b with
    | true => exact absurd (hb.1 rfl) hp
    | false => exact ⟨rfl, h⟩
theorem tellsQ_bool {p : Prop} {b : Bool} {w : World} (hb : b = true ↔ p) : ∀ e w', TellsQ p w e w' → e = .returned (.bool b) ∧ Gw w w' := by
  rintro e w' (⟨hp, rfl, rfl⟩ | ⟨hp, rfl, rfl⟩)
  · rw [hb.2 hp]; exact ⟨rfl, Gw.refl _⟩
  · cases b with
    | true => exact absurd (hb.1 rfl) hp
    | false => exact ⟨rfl, Gw.refl _⟩
end Go.Proofs.Ytigimjcngmcniaa
