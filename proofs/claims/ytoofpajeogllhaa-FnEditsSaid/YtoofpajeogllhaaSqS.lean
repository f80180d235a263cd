/-
  Edits squashed: the reference's way.
-/
import Derived.Test.YtoofpajeogllhaaSqI
import Derived.Test.YtoofpajeogllhaaStep
namespace Go.Proofs.Ytoofpajeogllhaa
open Go.RowKit

theorem lastTo_take {α : Type} (C : α → Bool) (l : List α) (k : Nat) : ∀ j, j ≤ k → lastTo C (l.take k) j = lastTo C l j
  | 0, _ => rfl
  | j + 1, hj => by
    have ih := lastTo_take C l k j (by omega)
    simp only [lastTo]
    rw [List.getElem?_take_of_lt (by omega), ih]
theorem rdBox {α : Type} [Flat α] (w : World) (e : TypeId) (y : α) : Rd (w.alloc (.cells (Flat.cells y).toArray e)) (some ⟨w.heap.size, 0, none⟩) [y] := by
  intro _
  refine ⟨w.heap.size, 0, rfl, by simp, fun i z hz j u hu => ?_⟩
  cases i with
  | zero =>
    simp only [List.getElem?_cons_zero, Option.some.injEq] at hz
    subst hz
    rw [cell_of_row _ _ _ _ _ _ (heap_alloc_new w (.cells (Flat.cells y).toArray e))]
    simpa using hu
  | succ i => simp at hz
theorem chain_mem {l : List Ed} {p : Int} {x : Ed} (h : x ∈ chainP l p) : x.2.1 = p := by
  have := (List.mem_filter.1 h).2
  simpa [byP] using this

end Go.Proofs.Ytoofpajeogllhaa
