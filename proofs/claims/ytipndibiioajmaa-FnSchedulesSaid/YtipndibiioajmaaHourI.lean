/-
  The program's functions over a table of hours.
-/
import Derived.Test.YtipndibiioajmaaHour
namespace Go.Proofs.Ytipndibiioajmaa
open Go.RowKit

theorem tabOf_snoc {W : List W3} {p f t : Nat} : tabOf (W ++ [((p : Int), (f : Int), (t : Int))]) = setT (tabOf W) p f t true := by
  have h := tabOf_take (W := W ++ [((p : Int), (f : Int), (t : Int))]) (k := W.length) (p := p) (f := f) (t := t) (by simp)
  rw [List.take_of_length_le (by simp), List.take_append_of_le_length (Nat.le_refl _), List.take_length] at h
  exact h
theorem tabOf_zero {W : List W3} (h : WinsP W) (k : Nat) : tabOf W 0 k = false := by
  unfold tabOf
  rw [List.any_eq_false]
  intro x hx
  have := h.1 x hx
  simp
  omega
noncomputable def addF (W : List W3) (a b c : Int) : List W3 × Bool := open Classical in if WinsP W ∧ WinP a b c then winF (tabOf (W ++ [(a, b, c)])) else ([], false)
theorem addF_bad {W : List W3} {a b c : Int} (h : ¬(WinsP W ∧ WinP a b c)) : addF W a b c = ([], false) := by unfold addF; rw [if_neg h]
theorem addF_ok {W : List W3} {a b c : Int} (h : WinsP W ∧ WinP a b c) : addF W a b c = winF (tabOf (W ++ [(a, b, c)])) := by unfold addF; rw [if_pos h]
def closeT (T : Nat → Nat → Bool) (f t : Int) : Nat → Nat → Bool := fun p h => T p h && !decide (f ≤ (h : Int) ∧ (h : Int) < t)
noncomputable def closeF (W : List W3) (f t : Int) : List W3 × Bool := open Classical in if WinsP W ∧ 0 ≤ f ∧ f < t ∧ t ≤ 168 then winF (closeT (tabOf W) f t) else ([], false)
theorem closeF_bad {W : List W3} {f t : Int} (h : ¬(WinsP W ∧ 0 ≤ f ∧ f < t ∧ t ≤ 168)) : closeF W f t = ([], false) := by unfold closeF; rw [if_neg h]
theorem closeF_ok {W : List W3} {f t : Int} (h : WinsP W ∧ 0 ≤ f ∧ f < t ∧ t ≤ 168) : closeF W f t = winF (closeT (tabOf W) f t) := by unfold closeF; rw [if_pos h]
theorem winF_ext {T U : Nat → Nat → Bool} (h : ∀ p, p < 10 → ∀ k, k < 168 → T p k = U p k) : winF T = winF U := by
  unfold winF
  rw [wtab_ext h]
def closeTo (T : Nat → Nat → Bool) (f t k : Nat) : Nat → Nat → Bool := fun p h => if 1 ≤ p ∧ p < k ∧ f ≤ h ∧ h < t then false else T p h
theorem closeTo_one (T : Nat → Nat → Bool) (f t : Nat) : closeTo T f t 1 = T := by
  funext p h
  unfold closeTo
  rw [if_neg (by omega)]
theorem closeTo_next (T : Nat → Nat → Bool) (f t k : Nat) (hk : 1 ≤ k) : closeTo T f t (k + 1) = setT (closeTo T f t k) k f t false := by
  funext p h
  unfold closeTo setT
  dsimp only
  by_cases h1 : p = k ∧ f ≤ h ∧ h < t
  · rw [if_pos h1, if_pos (by omega)]
  · rw [if_neg h1]
    by_cases h2 : 1 ≤ p ∧ p < k ∧ f ≤ h ∧ h < t
    · rw [if_pos h2, if_pos (by omega)]
    · rw [if_neg h2, if_neg (by omega)]
theorem closeTo_all {T : Nat → Nat → Bool} {f t : Nat} (h0 : ∀ h, T 0 h = false) : winF (closeTo T f t 10) = winF (closeT T f t) := by
  refine winF_ext fun p hp k hk => ?_
  unfold closeTo closeT
  by_cases h2 : 1 ≤ p ∧ p < 10 ∧ f ≤ k ∧ k < t
  · rw [if_pos h2, show decide ((f : Int) ≤ (k : Int) ∧ (k : Int) < (t : Int)) = true by simp; omega]
    simp
  · rw [if_neg h2]
    by_cases e : p = 0
    · subst e
      simp [h0]
    · rw [show decide ((f : Int) ≤ (k : Int) ∧ (k : Int) < (t : Int)) = false by simp; omega]
      simp
theorem closeTo_zero {T : Nat → Nat → Bool} {f t k : Nat} (h0 : ∀ h, T 0 h = false) (h : Nat) : closeTo T f t k 0 h = false := by
  unfold closeTo
  rw [if_neg (by omega)]
  exact h0 h

theorem winF_len (T : Nat → Nat → Bool) : (winF T).1.length ≤ 1048576 := by
  unfold winF
  split
  · dsimp only; omega
  · simp
theorem addF_len (W : List W3) (a b c : Int) : (addF W a b c).1.length ≤ 1048576 := by
  unfold addF
  split
  · exact winF_len _
  · simp
theorem closeF_len (W : List W3) (f t : Int) : (closeF W f t).1.length ≤ 1048576 := by
  unfold closeF
  split
  · exact winF_len _
  · simp

end Go.Proofs.Ytipndibiioajmaa
