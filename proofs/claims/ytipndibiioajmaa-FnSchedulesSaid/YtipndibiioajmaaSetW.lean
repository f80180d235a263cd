/-
  A field of a listed window is set.
-/
import Derived.Test.YtipndibiioajmaaTab
import Derived.Test.YtipndibiioajmaaList
namespace Go.Proofs.Ytipndibiioajmaa
open Go.RowKit

theorem flat_setW (l : List W3) (k : Nat) (x : W3) (v : Int) (hx : l[k]? = some x) : (flat l).set (k * 3 + 2) (.int .i64 v) = flat (l.set k (x.1, x.2.1, v)) := by
  induction l generalizing k with
  | nil => simp at hx
  | cons y l ih =>
    have hf : ∀ (y : W3) (l : List W3), flat (y :: l) = .int .i64 y.1 :: .int .i64 y.2.1 :: .int .i64 y.2.2 :: flat l := fun y l => by simp [flat, Flat.cells]
    cases k with
    | zero =>
      simp only [List.getElem?_cons_zero, Option.some.injEq] at hx
      subst hx
      simp [hf]
    | succ k =>
      rw [hf, show (k + 1) * 3 + 2 = k * 3 + 2 + 1 + 1 + 1 by omega]
      simp only [List.set_cons_succ]
      rw [ih k (by simpa using hx), hf]
theorem own_setW {w : World} {base : Nat} {e : TypeId} {n c g k : Nat} {l : List W3} {x : W3} (h : w.ownsRow base e 3 (.slice (some ⟨g, 0, none⟩) n c) n (flat l)) (hx : l[k]? = some x) (v : Int) :
    (w.setCell ⟨g, k * 3 + 2, none⟩ (.int .i64 v)).ownsRow base e 3 (.slice (some ⟨g, 0, none⟩) n c) n (flat (l.set k (x.1, x.2.1, v))) := by
  have h1 := World.ownsRow.stored h (k * 3 + 2) (.int .i64 v)
  rw [flat_setW l k x v hx] at h1
  exact h1.1
theorem own_cellsW {w : World} {base : Nat} {e : TypeId} {c g k n : Nat} {l : List W3} {x : W3} (hn : l.length = n) (h : w.ownsRow base e 3 (.slice (some ⟨g, 0, none⟩) n c) n (flat l)) (hx : l[k]? = some x) :
    w.cell? ⟨g, k * 3, none⟩ = some (.int .i64 x.1) ∧ w.cell? ⟨g, k * 3 + 1, none⟩ = some (.int .i64 x.2.1) ∧ w.cell? ⟨g, k * 3 + 2, none⟩ = some (.int .i64 x.2.2) := by
  subst hn
  have hr : Rd w (some ⟨g, 0, none⟩) l := own_rd (α := W3) h
  obtain ⟨b, off, hae, _, c0, c1, c2⟩ := hr.get3 hx
  simp only [Option.some.injEq, Addr.mk.injEq, and_true] at hae
  obtain ⟨rfl, rfl⟩ := hae
  simp only [Nat.zero_add] at c0 c1 c2
  exact ⟨c0, c1, c2⟩
end Go.Proofs.Ytipndibiioajmaa
