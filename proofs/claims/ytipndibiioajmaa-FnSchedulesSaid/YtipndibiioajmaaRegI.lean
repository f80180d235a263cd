/-
  A region that draws its order, by a condition that every operation keeps: it speaks of which operations are done, of the frame and of the world.
-/
import Derived.Test.YtipndibiioajmaaKit
import Derived.Deep.RegionHeld3
namespace Go.Proofs.Ytipndibiioajmaa
open Go.RowKit

/-- What an operation waits for. -/
def depsOf (md : Region.Mode) (ops : Array Oper) (i : Nat) : List Nat :=
  match ops[i]? with
  | some o => (o.after.toList.filter fun e => Region.binds md e).map fun e => e.on
  | none => []
section
variable {P : Program} {ops : Array Oper} {Q : Exit → Act → World → Prop} {md : Region.Mode}
theorem ready_deps {listed : Array Bool} {i : Nat} (h : i ∈ Region.ready md ops listed) : i < ops.size ∧ listed.getD i true = false ∧ ∀ j ∈ depsOf md ops i, listed.getD j false = true := by
  unfold Region.ready at h
  rw [List.mem_filter, List.mem_range] at h
  obtain ⟨h1, h2⟩ := h
  rw [Bool.and_eq_true, Bool.not_eq_true'] at h2
  refine ⟨h1, h2.1, fun j hj => ?_⟩
  unfold depsOf at hj
  cases ho : ops[i]? with
  | none => rw [ho] at hj; simp at hj
  | some o =>
    rw [ho] at hj h2
    simp only [Option.map_some, Option.getD_some] at h2
    have hall := Array.all_eq_true'.1 h2.2
    simp only [List.mem_map, List.mem_filter] at hj
    obtain ⟨e, ⟨he, hb⟩, rfl⟩ := hj
    have := hall e (Array.mem_toList_iff.1 he)
    simpa [hb] using this
theorem ready_nil {listed : Array Bool} (h : Region.ready md ops listed = []) {i : Nat} (hi : i < ops.size) (hd : ∀ j ∈ depsOf md ops i, listed.getD j false = true) : listed.getD i true = true := by
  apply Classical.byContradiction
  intro hn
  rw [Bool.not_eq_true] at hn
  have : i ∈ Region.ready md ops listed := by
    unfold Region.ready
    rw [List.mem_filter, List.mem_range]
    refine ⟨hi, ?_⟩
    rw [Bool.and_eq_true, Bool.not_eq_true']
    refine ⟨hn, ?_⟩
    have ho : ops[i]? = some ops[i] := Array.getElem?_eq_getElem hi
    rw [ho]
    simp only [Option.map_some, Option.getD_some]
    rw [Array.all_eq_true']
    intro e he
    by_cases hb : Region.binds md e = true
    · have := hd e.on (by
        unfold depsOf
        rw [ho]
        simp only [List.mem_map, List.mem_filter]
        exact ⟨e, ⟨Array.mem_toList_iff.2 he, hb⟩, rfl⟩)
      simp [this]
    · simp [hb]
  rw [h] at this
  cases this
/-- How many are not yet done. -/
def leftN (l : Array Bool) : Nat := l.toList.countP (fun b => !b)
theorem leftN_set {l : Array Bool} {i : Nat} (h : l.getD i true = false) : leftN (l.setIfInBounds i true) + 1 = leftN l := by
  have hi : i < l.size := by
    apply Classical.byContradiction
    intro hn
    simp [Array.getD, hn] at h
  have hl : l.toList[i]? = some false := by
    rw [Array.getElem?_toList, Array.getElem?_eq_getElem hi]
    simp [Array.getD, hi] at h
    rw [h]
  unfold leftN
  rw [Array.toList_setIfInBounds]
  generalize l.toList = xs at hl
  clear h hi
  induction xs generalizing i with
  | nil => simp at hl
  | cons x xs ih =>
    cases i with
    | zero =>
      simp only [List.getElem?_cons_zero, Option.some.injEq] at hl
      subst hl
      simp
    | succ i =>
      simp only [List.getElem?_cons_succ] at hl
      have := ih hl
      simp only [List.set_cons_succ, List.countP_cons]
      omega
theorem leftN_zero {l : Array Bool} (hs : l.size = ops.size) (h : leftN l = 0) : Region.ready md ops l = [] := by
  apply List.eq_nil_iff_forall_not_mem.2
  intro i hi
  obtain ⟨h1, h2, _⟩ := ready_deps hi
  have := leftN_set h2
  omega
theorem wpAny_inv {Inv : Array Bool → Act → World → Prop} (hsz : ∀ l a w, Inv l a w → l.size = ops.size)
    (hstep : ∀ l a w i, Inv l a w → i < ops.size → l.getD i true = false → (∀ j ∈ depsOf md ops i, l.getD j false = true) → wpOp P ops Q i (fun a' w' => Inv (l.setIfInBounds i true) a' w') a w)
    (hend : ∀ l a w, Inv l a w → Region.ready md ops l = [] → Q .normal a w) : ∀ fuel l a w, Inv l a w → leftN l ≤ fuel → wpAny P md ops Q fuel l a w := by
  intro fuel
  induction fuel with
  | zero => intro l a w hI hl; exact ⟨leftN_zero (hsz _ _ _ hI) (by omega), hend _ _ _ hI (leftN_zero (hsz _ _ _ hI) (by omega))⟩
  | succ fuel ih =>
    intro l a w hI hl
    refine ⟨hend _ _ _ hI, fun i hi => ?_⟩
    obtain ⟨h1, h2, h3⟩ := ready_deps hi
    refine wpOp_mono (fun a' w' hI' => ih _ a' w' hI' ?_) (hstep l a w i hI h1 h2 h3)
    have := leftN_set h2
    omega
theorem leftN_replicate (n : Nat) : leftN (Array.replicate n false) ≤ n := by
  unfold leftN
  have := List.countP_le_length (p := fun b : Bool => !b) (l := (Array.replicate n false).toList)
  simpa using this
theorem wp_region_inv {id : Nat} {a : Act} {w : World} (Inv : Array Bool → Act → World → Prop) (hm : P.follows .mixedOrders = true) (hsz : ∀ l a w, Inv l a w → l.size = ops.size)
    (h0 : Inv (Array.replicate ops.size false) a w.drew)
    (hstep : ∀ l a w i, Inv l a w → i < ops.size → l.getD i true = false → (∀ j ∈ depsOf .any ops i, l.getD j false = true) → wpOp P ops Q i (fun a' w' => Inv (l.setIfInBounds i true) a' w') a w)
    (hend : ∀ l a w, Inv l a w → Region.ready .any ops l = [] → Q .normal a w) : (Code.region id ops true).wp P Q a w :=
  wp_region_any hm (wpAny_inv hsz hstep hend ops.size _ a _ h0 (leftN_replicate _))
end
end Go.Proofs.Ytipndibiioajmaa
