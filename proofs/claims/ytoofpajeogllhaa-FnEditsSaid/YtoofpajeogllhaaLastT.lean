/-
  The last edit of a performer.
-/
import Derived.Test.YtoofpajeogllhaaEdit
namespace Go.Proofs.Ytoofpajeogllhaa
open Go.RowKit

/-- The last index below k at which C holds, or -1. -/
def lastTo {α : Type} (C : α → Bool) (l : List α) : Nat → Int
  | 0 => -1
  | k + 1 => match l[k]? with
    | some x => if C x = true then (k : Int) else lastTo C l k
    | none => lastTo C l k
theorem lastTo_yes {α : Type} {C : α → Bool} {l : List α} {k : Nat} {x : α} (hx : l[k]? = some x) (hc : C x = true) : lastTo C l (k + 1) = k := by
  simp only [lastTo, hx, hc, if_true]
theorem lastTo_no {α : Type} {C : α → Bool} {l : List α} {k : Nat} {x : α} (hx : l[k]? = some x) (hc : C x = false) : lastTo C l (k + 1) = lastTo C l k := by
  simp [lastTo, hx, hc]
theorem lastTo_bd {α : Type} (C : α → Bool) (l : List α) (k : Nat) : -1 ≤ lastTo C l k ∧ lastTo C l k < k := by
  induction k with
  | zero => simp [lastTo]
  | succ k ih =>
    unfold lastTo
    split
    · split <;> omega
    · omega

open Classical in
noncomputable def lastTouch (l : List (Int × Int × Int × Int × Int × Int)) (p : Int) : Int × Bool := if (EditsP l ∧ InR p 0 11) ∧ 0 ≤ lastTo (fun x : (Int × Int × Int × Int × Int × Int) => x.2.1 == p) l l.length then (lastTo (fun x : (Int × Int × Int × Int × Int × Int) => x.2.1 == p) l l.length, true) else (0, false)

end Go.Proofs.Ytoofpajeogllhaa
