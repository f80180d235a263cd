/-
  The text of windows and of booked ones: plain.
-/
import Derived.Test.YtgbgmmdpldekbaaDoorBuild
namespace Go.Proofs.YtgbgmmdpldekbaaDoor

def cat {α : Type} (f : α → ByteArray) (l : List α) : ByteArray := l.foldl (fun a x => a ++ f x) ⟨#[]⟩
theorem cat_nil {α : Type} (f : α → ByteArray) : cat f [] = ⟨#[]⟩ := rfl
theorem cat_snoc {α : Type} (f : α → ByteArray) (l : List α) (x : α) : cat f (l ++ [x]) = cat f l ++ f x := by simp [cat]
theorem cat_take {α : Type} {f : α → ByteArray} {l : List α} {k : Nat} {x : α} (hx : l[k]? = some x) : cat f (l.take (k + 1)) = cat f (l.take k) ++ f x := by
  rw [List.take_add_one, hx, Option.toList_some, cat_snoc]
theorem cat_size {α : Type} {f : α → ByteArray} {m : Nat} {l : List α} (h : ∀ x ∈ l, (f x).size ≤ m) (k : Nat) : (cat f (l.take k)).size ≤ m * k := by
  induction k with
  | zero => rw [List.take_zero, cat_nil, Nat.mul_zero]; exact Nat.le_refl 0
  | succ k ih =>
    rcases hx : l[k]? with _ | x
    · rw [List.take_add_one, hx, Option.toList_none, List.append_nil]
      rw [Nat.mul_succ]
      omega
    · rw [cat_take hx, ByteArray.size_append', Nat.mul_succ]
      have := h x (List.mem_of_getElem? hx)
      omega
theorem ret_sb {f : ByteArray × Bool} {a : ByteArray} {b : Bool} (h : f = (a, b)) : Ending.returned (.tuple #[.string a, .bool b]) = .returned (.tuple #[.string f.1, .bool f.2]) := by rw [h]
end Go.Proofs.YtgbgmmdpldekbaaDoor
