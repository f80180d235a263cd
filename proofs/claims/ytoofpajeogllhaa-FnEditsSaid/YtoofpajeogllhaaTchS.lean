/-
  The performers that an editor touched: the reference's way.
-/
import Derived.Test.YtoofpajeogllhaaTchP
import Derived.Test.YtoofpajeogllhaaAppend
import Derived.Test.YtoofpajeogllhaaTyInt
import Derived.Test.YtoofpajeogllhaaTell
namespace Go.Proofs.Ytoofpajeogllhaa
open Go.RowKit

theorem own_nil_cap {w : World} {base n c : Nat} {e : TypeId} {size : Nat} {xs : List Value} (h : w.ownsRow base e size (.slice none n c) n xs) : n = 0 ∧ c = 0 := by
  rcases h.2 with ⟨hv, _⟩ | ⟨g, cap, cur, hv, _⟩
  · simp only [Value.slice.injEq, true_and] at hv; exact hv
  · cases hv
theorem own_cap {w : World} {base n c : Nat} {A : Option Addr} {e : TypeId} {size : Nat} {xs : List Value} (h : w.ownsRow base e size (.slice A n c) n xs) : n ≤ c ∧ c ≤ 9223372036854775807 := by
  obtain ⟨_, _, hv, hc, hc2, _⟩ := own_form h
  simp only [Value.slice.injEq, true_and] at hv
  obtain ⟨rfl, rfl⟩ := hv
  unfold maxLen at hc2
  omega

end Go.Proofs.Ytoofpajeogllhaa
