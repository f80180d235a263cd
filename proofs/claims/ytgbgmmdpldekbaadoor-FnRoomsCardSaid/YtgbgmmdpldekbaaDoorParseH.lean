/-
  Words in memory.
-/
import Derived.Test.YtgbgmmdpldekbaaDoorPieces
import Derived.Test.YtgbgmmdpldekbaaDoorBeside
namespace Go.Proofs.YtgbgmmdpldekbaaDoor
open Go.RowKit

theorem toList_iff {a b : ByteArray} : a.toList = b.toList ↔ a = b := by
  constructor
  · intro h
    rw [ByteArray.toList_eq, ByteArray.toList_eq] at h
    cases a; cases b
    congr
    exact Array.toList_inj.1 h
  · rintro rfl; rfl
theorem beq_yes {a b : ByteArray} (h : a = b) : (a.toList == b.toList) = true := by subst h; simp
theorem beq_no {a b : ByteArray} (h : a ≠ b) : (a.toList == b.toList) = false := by
  rw [beq_eq_false_iff_ne]; exact fun e => h (toList_iff.1 e)
theorem own_cellsT {w : World} {base : Nat} {e : TypeId} {n c g k : Nat} {l : List ByteArray} {x : ByteArray} (hn : l.length = n) (h : w.ownsRow base e 1 (.slice (some ⟨g, 0, none⟩) n c) n (flat l)) (hx : l[k]? = some x) : w.cell? ⟨g, k, none⟩ = some (.string x) := by
  subst hn
  obtain ⟨b, off, hae, _, c0⟩ := (own_rd (α := ByteArray) h).getT hx
  simp only [Option.some.injEq, Addr.mk.injEq, and_true] at hae
  obtain ⟨rfl, rfl⟩ := hae
  simpa using c0
theorem pcs_short' {c : UInt8} {s x : ByteArray} (h : x ∈ pcs c s) : x.size ≤ s.size := by
  unfold pcs at h
  obtain ⟨p, hp, rfl⟩ := List.mem_map.1 h
  have := pieces_short c _ p hp
  rw [toB_size]
  simpa using this
theorem word_short {x : ByteArray} (h : L3 x) (k : Nat) (hk : k < 3) : (toB (word x k)).size ≤ x.size := by
  have hp := h.pcs
  refine pcs_short' (c := 32) (s := x) ?_
  rw [hp]
  rcases k with _ | _ | _ | k
  · simp
  · simp
  · simp
  · omega

end Go.Proofs.YtgbgmmdpldekbaaDoor
