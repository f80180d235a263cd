/-
  A struct in a block of its own.
-/
import Derived.Test.YtphfaeefjcdjjaaList
namespace Go.Proofs.Ytphfaeefjcdjjaa
open Go.RowKit

def BoxR (w : World) (b : Nat) (cs : Array Value) (t : TypeId) : Prop := w.heap[b]? = some (.cells cs t (0, 0))
theorem BoxR.new (w : World) (cs : Array Value) (t : TypeId) : BoxR (w.alloc (.cells cs t)) w.heap.size cs t := heap_alloc_new w _
theorem BoxR.lt {w : World} {b : Nat} {cs : Array Value} {t : TypeId} (h : BoxR w b cs t) : b < w.heap.size := (Array.getElem?_eq_some_iff.1 h).1
theorem BoxR.gw {w w' : World} {b : Nat} {cs : Array Value} {t : TypeId} (h : BoxR w b cs t) (hg : Gw w w') : BoxR w' b cs t := by
  unfold BoxR at *
  rw [hg.heap (Array.getElem?_eq_some_iff.1 h).1]
  exact h
theorem BoxR.cell {w : World} {b : Nat} {cs : Array Value} {t : TypeId} {v : Value} (h : BoxR w b cs t) (j : Nat) (hj : cs[j]? = some v) : w.cell? ⟨b, j, none⟩ = some v := by
  rw [cell_of_row _ _ _ _ _ _ h]; exact hj
theorem BoxR.free {w : World} {b : Nat} {cs : Array Value} {t : TypeId} (h : BoxR w b cs t) (j : Nat) : w.frozen? ⟨b, j, none⟩ = false := by
  unfold World.frozen?
  rw [h]
  simp
theorem BoxR.set {w : World} {b : Nat} {cs : Array Value} {t : TypeId} (h : BoxR w b cs t) (j : Nat) (v : Value) : BoxR (w.setCell ⟨b, j, none⟩ v) b (cs.setIfInBounds j v) t := by
  unfold BoxR
  rw [setCell_eq_setRow w b j cs t (0, 0) v h]
  exact setRow_heap w b _ _ t _ h

end Go.Proofs.Ytphfaeefjcdjjaa
