/-
  Sections: a player who goes to another one; two that are joined.
-/
import Derived.Test.YtbhkcbfmlniamaaDoorSecB
namespace Go.Proofs.YtbhkcbfmlniamaaDoor
open Go.RowKit

theorem flat_consS (y : Sec) (l : List Sec) : flat (y :: l) = .string y.1 :: .int .i64 y.2.1 :: .int .i64 y.2.2 :: flat l := by simp [flat, Flat.cells]
theorem flat_setS1 : ∀ (l : List Sec) (k : Nat) (x : Sec) (v : Int), l[k]? = some x → (flat l).set (k * 3 + 1) (.int .i64 v) = flat (l.set k (x.1, v, x.2.2))
  | [], _, _, _, h => by simp at h
  | y :: l, 0, x, v, h => by
    simp at h; subst h
    simp [flat_consS]
  | y :: l, k + 1, x, v, h => by
    rw [flat_consS, show (k + 1) * 3 + 1 = k * 3 + 1 + 1 + 1 + 1 by omega]
    simp only [List.set_cons_succ]
    rw [flat_setS1 l k x v (by simpa using h), flat_consS]
theorem flat_setS2 : ∀ (l : List Sec) (k : Nat) (x : Sec) (v : Int), l[k]? = some x → (flat l).set (k * 3 + 2) (.int .i64 v) = flat (l.set k (x.1, x.2.1, v))
  | [], _, _, _, h => by simp at h
  | y :: l, 0, x, v, h => by
    simp at h; subst h
    simp [flat_consS]
  | y :: l, k + 1, x, v, h => by
    rw [flat_consS, show (k + 1) * 3 + 2 = k * 3 + 2 + 1 + 1 + 1 by omega]
    simp only [List.set_cons_succ]
    rw [flat_setS2 l k x v (by simpa using h), flat_consS]
theorem own_setS1 {w : World} {base : Nat} {e : TypeId} {n c g k : Nat} {l : List Sec} {x : Sec} (h : w.ownsRow base e 3 (.slice (some ⟨g, 0, none⟩) n c) n (flat l)) (hx : l[k]? = some x) (v : Int) :
    (w.setCell ⟨g, k * 3 + 1, none⟩ (.int .i64 v)).ownsRow base e 3 (.slice (some ⟨g, 0, none⟩) n c) n (flat (l.set k (x.1, v, x.2.2))) ∧ w.grownBy (w.setCell ⟨g, k * 3 + 1, none⟩ (.int .i64 v)) (some g) := by
  have h1 := World.ownsRow.stored h (k * 3 + 1) (.int .i64 v)
  rw [flat_setS1 l k x v hx] at h1
  exact h1
theorem own_setS2 {w : World} {base : Nat} {e : TypeId} {n c g k : Nat} {l : List Sec} {x : Sec} (h : w.ownsRow base e 3 (.slice (some ⟨g, 0, none⟩) n c) n (flat l)) (hx : l[k]? = some x) (v : Int) :
    (w.setCell ⟨g, k * 3 + 2, none⟩ (.int .i64 v)).ownsRow base e 3 (.slice (some ⟨g, 0, none⟩) n c) n (flat (l.set k (x.1, x.2.1, v))) ∧ w.grownBy (w.setCell ⟨g, k * 3 + 2, none⟩ (.int .i64 v)) (some g) := by
  have h1 := World.ownsRow.stored h (k * 3 + 2) (.int .i64 v)
  rw [flat_setS2 l k x v hx] at h1
  exact h1
/-- The cells of an element of an owned list. -/
theorem own_cellsS {w : World} {base : Nat} {e : TypeId} {c g k : Nat} {l : List Sec} {x : Sec} (h : w.ownsRow base e 3 (.slice (some ⟨g, 0, none⟩) l.length c) l.length (flat l)) (hx : l[k]? = some x) :
    w.cell? ⟨g, k * 3, none⟩ = some (.string x.1) ∧ w.cell? ⟨g, k * 3 + 1, none⟩ = some (.int .i64 x.2.1) ∧ w.cell? ⟨g, k * 3 + 2, none⟩ = some (.int .i64 x.2.2) := by
  have hr : Rd w (some ⟨g, 0, none⟩) l := own_rd (α := Sec) h
  obtain ⟨b, off, hae, _, c0, c1, c2⟩ := hr.getS hx
  simp only [Option.some.injEq, Addr.mk.injEq, and_true] at hae
  obtain ⟨rfl, rfl⟩ := hae
  exact ⟨by simpa using c0, by simpa using c1, by simpa using c2⟩

/-- One player of section f goes to section t. -/
def mvp (l : List Sec) (f t : Nat) : List Sec :=
  match l[f]?, l[t]? with
  | some x, some y => (l.set f (x.1, x.2.1 - 1, x.2.2)).set t (y.1, y.2.1 + 1, y.2.2)
  | _, _ => l
theorem mvp_at {l : List Sec} {f t : Nat} {x y : Sec} (hx : l[f]? = some x) (hy : l[t]? = some y) : mvp l f t = (l.set f (x.1, x.2.1 - 1, x.2.2)).set t (y.1, y.2.1 + 1, y.2.2) := by
  unfold mvp; rw [hx, hy]
theorem mvp_len (l : List Sec) (f t : Nat) : (mvp l f t).length = l.length := by
  unfold mvp; split <;> simp
abbrev MvpP (l : List Sec) (f t : Int) : Prop := HasP l f ∧ HasP l t ∧ f ≠ t ∧ ∀ x, l[f.toNat]? = some x → x.2.1 ≠ 1
open Classical in
noncomputable def mvpF (l : List Sec) (f t : Int) : List Sec × Bool := if MvpP l f t then (mvp l f.toNat t.toNat, true) else ([], false)
theorem mvpF_bad {l : List Sec} {f t : Int} (h : ¬MvpP l f t) : mvpF l f t = ([], false) := by unfold mvpF; rw [if_neg h]
theorem mvpF_good {l : List Sec} {f t : Nat} {x y : Sec} (h : MvpP l f t) (hx : l[f]? = some x) (hy : l[t]? = some y) : mvpF l f t = ((l.set f (x.1, x.2.1 - 1, x.2.2)).set t (y.1, y.2.1 + 1, y.2.2), true) := by
  unfold mvpF; rw [if_pos h]; simp [mvp_at hx hy]
theorem mvpF_len (l : List Sec) (f t : Int) : (mvpF l f t).1.length ≤ 1048576 := by
  unfold mvpF
  split
  · rename_i h
    have := h.1.1.2.2.1.2
    dsimp only
    rw [mvp_len]
    omega
  · simp

theorem own_cellsN {w : World} {base : Nat} {e : TypeId} {n c g k : Nat} {l : List Sec} {x : Sec} (h : w.ownsRow base e 3 (.slice (some ⟨g, 0, none⟩) n c) n (flat l)) (hn : l.length = n) (hx : l[k]? = some x) :
    w.cell? ⟨g, k * 3, none⟩ = some (.string x.1) ∧ w.cell? ⟨g, k * 3 + 1, none⟩ = some (.int .i64 x.2.1) ∧ w.cell? ⟨g, k * 3 + 2, none⟩ = some (.int .i64 x.2.2) := by
  subst hn; exact own_cellsS h hx
end Go.Proofs.YtbhkcbfmlniamaaDoor
