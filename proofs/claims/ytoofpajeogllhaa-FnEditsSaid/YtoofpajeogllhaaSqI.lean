/-
  Edits squashed: the program's way.
-/
import Derived.Test.YtoofpajeogllhaaSqP
import Derived.Test.YtoofpajeogllhaaAppend
import Derived.Test.YtoofpajeogllhaaTell
namespace Go.Proofs.Ytoofpajeogllhaa
open Go.RowKit

/-- A variable that holds an edit. -/
def BoxE (w : World) (b : Nat) (x : Ed) : Prop := w.heap[b]? = some (.cells #[.int .i64 x.1, .int .i64 x.2.1, .int .i64 x.2.2.1, .int .i64 x.2.2.2.1, .int .i64 x.2.2.2.2.1, .int .i64 x.2.2.2.2.2] 28 (0, 0))
theorem row_set {w : World} {b j : Nat} {cs : Array Value} {t : TypeId} {v : Value} (h : w.heap[b]? = some (.cells cs t (0, 0))) : (w.setCell ⟨b, j, none⟩ v).heap[b]? = some (.cells (cs.setIfInBounds j v) t (0, 0)) := by
  rw [setCell_eq_setRow w b j cs t (0, 0) v h]
  exact setRow_heap w b _ _ t _ h
theorem row_free {w : World} {b j : Nat} {cs : Array Value} {t : TypeId} (h : w.heap[b]? = some (.cells cs t (0, 0))) : w.frozen? ⟨b, j, none⟩ = false := by
  unfold World.frozen?
  rw [h]
  simp
theorem BoxE.cells {w : World} {b : Nat} {x : Ed} (h : BoxE w b x) : w.cell? ⟨b, 0, none⟩ = some (.int .i64 x.1) ∧ w.cell? ⟨b, 1, none⟩ = some (.int .i64 x.2.1) ∧ w.cell? ⟨b, 2, none⟩ = some (.int .i64 x.2.2.1) ∧ w.cell? ⟨b, 3, none⟩ = some (.int .i64 x.2.2.2.1) ∧ w.cell? ⟨b, 4, none⟩ = some (.int .i64 x.2.2.2.2.1) ∧ w.cell? ⟨b, 5, none⟩ = some (.int .i64 x.2.2.2.2.2) := by
  unfold BoxE at h
  refine ⟨?_, ?_, ?_, ?_, ?_, ?_⟩ <;> (rw [cell_of_row _ _ _ _ _ _ h]; rfl)
theorem BoxE.free {w : World} {b : Nat} {x : Ed} (h : BoxE w b x) (j : Nat) : w.frozen? ⟨b, j, none⟩ = false := row_free h
theorem BoxE.lt {w : World} {b : Nat} {x : Ed} (h : BoxE w b x) : b < w.heap.size := (Array.getElem?_eq_some_iff.1 h).1
theorem BoxE.gw {w w' : World} {b : Nat} {x : Ed} (h : BoxE w b x) (hg : Gw w w') : BoxE w' b x := by
  unfold BoxE at *
  rw [hg.heap (Array.getElem?_eq_some_iff.1 h).1]
  exact h
theorem BoxE.six {w : World} {b : Nat} {x : Ed} (h : BoxE w b x) (y : Ed) : BoxE ((((((w.setCell ⟨b, 0, none⟩ (.int .i64 y.1)).setCell ⟨b, 1, none⟩ (.int .i64 y.2.1)).setCell ⟨b, 2, none⟩ (.int .i64 y.2.2.1)).setCell ⟨b, 3, none⟩ (.int .i64 y.2.2.2.1)).setCell ⟨b, 4, none⟩ (.int .i64 y.2.2.2.2.1)).setCell ⟨b, 5, none⟩ (.int .i64 y.2.2.2.2.2)) b y := by
  unfold BoxE at *
  exact row_set (row_set (row_set (row_set (row_set (row_set h)))))
theorem BoxE.go1 {w : World} {b : Nat} {x : Ed} (h : BoxE w b x) (a m n : Int) : BoxE (((w.setCell ⟨b, 4, none⟩ (.int .i64 m)).setCell ⟨b, 5, none⟩ (.int .i64 n)).setCell ⟨b, 0, none⟩ (.int .i64 a)) b (a, x.2.1, x.2.2.1, x.2.2.2.1, m, n) := by
  unfold BoxE at *
  exact row_set (row_set (row_set h))
theorem BoxE.go2 {w : World} {b : Nat} {x : Ed} (h : BoxE w b x) (a m n : Int) : BoxE (((w.setCell ⟨b, 0, none⟩ (.int .i64 a)).setCell ⟨b, 4, none⟩ (.int .i64 m)).setCell ⟨b, 5, none⟩ (.int .i64 n)) b (a, x.2.1, x.2.2.1, x.2.2.2.1, m, n) := by
  unfold BoxE at *
  exact row_set (row_set (row_set h))
theorem BoxE.alloc {w : World} {b : Nat} {x : Ed} (h : BoxE w b x) (o : Obj) : BoxE (w.alloc o) b x := h.gw ((Gw.refl _).alloc _)
theorem BoxE.drew {w : World} {b : Nat} {x : Ed} (h : BoxE w b x) : BoxE w.drew b x := h
theorem BoxE.new (w : World) (x : Ed) : BoxE (w.alloc (.cells #[.int .i64 x.1, .int .i64 x.2.1, .int .i64 x.2.2.1, .int .i64 x.2.2.2.1, .int .i64 x.2.2.2.2.1, .int .i64 x.2.2.2.2.2] 28)) w.heap.size x := heap_alloc_new w _

/-- What a chain comes to. -/
def ownOf (c : List Ed) : Ed := match c.head?, c.getLast? with
  | some f, some z => (z.1, f.2.1, f.2.2.1, f.2.2.2.1, z.2.2.2.2.1, z.2.2.2.2.2)
  | _, _ => (0, 0, 0, 0, 0, 0)
theorem ownOf_nil : ownOf [] = (0, 0, 0, 0, 0, 0) := rfl
theorem ownOf_one (x : Ed) : ownOf [x] = x := rfl
theorem ownOf_snoc {c : List Ed} (x : Ed) (h : c ≠ []) : ownOf (c ++ [x]) = (x.1, (ownOf c).2.1, (ownOf c).2.2.1, (ownOf c).2.2.2.1, x.2.2.2.2.1, x.2.2.2.2.2) := by
  cases c with
  | nil => exact absurd rfl h
  | cons f r =>
    obtain ⟨z, hz⟩ : ∃ z, (f :: r).getLast? = some z := ⟨_, List.getLast?_eq_some_getLast (by simp)⟩
    have h1 : ((f :: r) ++ [x]).getLast? = some x := List.getLast?_concat
    unfold ownOf
    rw [h1, hz]
    rfl
theorem ownOf_last {c : List Ed} {z : Ed} (hz : c.getLast? = some z) : (ownOf c).2.2.2.2.1 = z.2.2.2.2.1 ∧ (ownOf c).2.2.2.2.2 = z.2.2.2.2.2 := by
  cases c with
  | nil => simp at hz
  | cons f r => unfold ownOf; rw [hz]; exact ⟨rfl, rfl⟩
theorem sqOne_own {c : List Ed} (h : c ≠ []) : sqOne c = if (ownOf c).2.2.1 = (ownOf c).2.2.2.2.1 ∧ (ownOf c).2.2.2.1 = (ownOf c).2.2.2.2.2 then [] else [ownOf c] := by
  cases c with
  | nil => exact absurd rfl h
  | cons f r =>
    obtain ⟨z, hz⟩ : ∃ z, (f :: r).getLast? = some z := ⟨_, List.getLast?_eq_some_getLast (by simp)⟩
    unfold ownOf sqOne
    rw [hz]
    rfl
theorem last_of_ne {c : List Ed} (h : c ≠ []) : ∃ z, c.getLast? = some z := ⟨_, List.getLast?_eq_some_getLast h⟩

/-- What the inner loop has seen. -/
def SqIn (l : List Ed) (p : Nat) (wo : World) (f q : Value) (w2 : World) : Prop := ∃ (k : Nat) (fb : Bool) (own : Ed), q = .int .i64 k ∧ k ≤ l.length ∧ f = .bool fb ∧ Hid (fb = !(chainP (l.take k) (p : Int)).isEmpty) ∧ Hid (own = ownOf (chainP (l.take k) (p : Int))) ∧ BoxE w2 wo.heap.size own ∧ Hid (Lk (chainP (l.take k) (p : Int))) ∧ Gw wo w2

end Go.Proofs.Ytoofpajeogllhaa
