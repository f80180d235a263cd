/-
  The first schedule: the program's way.
-/
import Derived.Test.YtgbgmmdpldekbaaDoorEarl
namespace Go.Proofs.YtgbgmmdpldekbaaDoor
open Go.RowKit

noncomputable def goF (W : List (Int × Int × Int)) (L : List (Int × Int)) : List B4 × Bool := match schedGo W [] L with
  | some S => (S, true)
  | none => ([], false)
theorem goF_some {W : List (Int × Int × Int)} {L : List (Int × Int)} {S : List B4} (h : schedGo W [] L = some S) : goF W L = (S, true) := by unfold goF; rw [h]
theorem goF_none {W : List (Int × Int × Int)} {L : List (Int × Int)} (h : schedGo W [] L = none) : goF W L = ([], false) := by unfold goF; rw [h]
theorem planF_go {W : List (Int × Int × Int)} {L : List (Int × Int)} (h : WinsP W ∧ RehP L) : planF W L = goF W L := by
  cases hs : schedGo W [] L with
  | none => rw [planF_none hs, goF_none hs]
  | some S => rw [planF_some h hs, goF_some hs]
theorem firstV_some {W : List (Int × Int × Int)} {S : List B4} {r : Int × Int} {x : B4} (h : firstB W S r = some x) : firstV W S r = (x, true) := by unfold firstV; rw [h]
theorem firstV_none {W : List (Int × Int × Int)} {S : List B4} {r : Int × Int} (h : firstB W S r = none) : firstV W S r = ((0, 0, 0, 0), false) := by unfold firstV; rw [h]
theorem sched_step {W : List (Int × Int × Int)} {acc : List B4} {L : List (Int × Int)} {k : Nat} {r : Int × Int} {x : B4} (hr : L[k]? = some r) (h : firstB W acc r = some x) : schedGo W acc (L.drop k) = schedGo W (acc ++ [x]) (L.drop (k + 1)) := by
  rw [drop_of' hr, schedGo_cons_some h]
theorem sched_stop {W : List (Int × Int × Int)} {acc : List B4} {L : List (Int × Int)} {k : Nat} {r : Int × Int} (hr : L[k]? = some r) (h : firstB W acc r = none) : schedGo W acc (L.drop k) = none := by
  rw [drop_of' hr, schedGo_cons_none h]

end Go.Proofs.YtgbgmmdpldekbaaDoor
