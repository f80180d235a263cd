/-
  Draws of charts.
-/
import Derived.Test.YtoofpajeogllhaaEdD
import Derived.Test.YtoofpajeogllhaaTail
import Derived.Test.YtoofpajeogllhaaChart
import Derived.Test.YtoofpajeogllhaaPush2
namespace Go.Proofs.Ytoofpajeogllhaa
open Go.RowKit

abbrev TmS (x : Int × Int) : Prop := SpotT x.1 x.2
/-- How many spots of a list lie at Y or beyond. -/
def farY (l : List (Int × Int)) (Y : Int) : Nat := (l.filter fun x => decide (Y ≤ x.2)).length
theorem farY_le (l : List (Int × Int)) (Y : Int) : farY l Y ≤ l.length := List.length_filter_le _ _
theorem farY_mono (l : List (Int × Int)) (Y : Int) : farY l (Y + 1) ≤ farY l Y := by
  induction l with
  | nil => exact Nat.le_refl _
  | cons x l ih =>
    unfold farY at *
    by_cases h1 : Y + 1 ≤ x.2
    · rw [List.filter_cons_of_pos (by simp; omega), List.filter_cons_of_pos (by simp; omega)]
      simp only [List.length_cons]
      omega
    · rw [List.filter_cons_of_neg (by simp; omega)]
      by_cases h2 : Y ≤ x.2
      · rw [List.filter_cons_of_pos (by simp; omega)]
        simp only [List.length_cons]
        omega
      · rw [List.filter_cons_of_neg (by simp; omega)]
        exact ih
theorem farY_hit {l : List (Int × Int)} {Y X : Int} (h : (X, Y) ∈ l) : farY l (Y + 1) + 1 ≤ farY l Y := by
  induction l with
  | nil => simp at h
  | cons x l ih =>
    rcases List.mem_cons.1 h with rfl | h
    · have := farY_mono l Y
      unfold farY at *
      rw [List.filter_cons_of_neg (by simp; omega), List.filter_cons_of_pos (by simp)]
      simp only [List.length_cons]
      omega
    · have := ih h
      unfold farY at *
      by_cases h1 : Y + 1 ≤ x.2
      · rw [List.filter_cons_of_pos (by simp; omega), List.filter_cons_of_pos (by simp; omega)]
        simp only [List.length_cons]
        omega
      · rw [List.filter_cons_of_neg (by simp; omega)]
        by_cases h2 : Y ≤ x.2
        · rw [List.filter_cons_of_pos (by simp; omega)]
          simp only [List.length_cons]
          omega
        · rw [List.filter_cons_of_neg (by simp; omega)]
          exact this
theorem farY_snoc (l : List (Int × Int)) (x : Int × Int) (Y : Int) (h : ¬Y ≤ x.2) : farY (l ++ [x]) Y = farY l Y := by
  unfold farY
  rw [List.filter_append, List.filter_cons_of_neg (by simpa using h)]
  simp
/-- What bounds the tries of a draw. -/
def TryI (n T : Nat) (l : List (Int × Int)) : Prop := 61 ≤ T → T + farY l (7 + (T : Int)) + (n - l.length) ≤ 61 + n
theorem TryI.bd {n T : Nat} {l : List (Int × Int)} (h : TryI n T l) : T ≤ 61 + n := by
  by_cases hT : 61 ≤ T
  · have := h hT; omega
  · omega
/-- The next try: a spot that is there already, or a new one. -/
theorem TryI.next {n T : Nat} {l : List (Int × Int)} (h : TryI n T l) (hl : l.length < n) {x : Int × Int} (hx : 60 < T → x = (3 * (l.length : Int), 7 + (T : Int))) : (x ∈ l → TryI n (T + 1) l) ∧ (x ∉ l → TryI n (T + 1) (l ++ [x])) := by
  have hc : 7 + ((T + 1 : Nat) : Int) = 7 + (T : Int) + 1 := by omega
  constructor
  · intro hm hT
    rw [hc]
    by_cases h60 : 60 < T
    · have h1 := h (by omega)
      rw [hx h60] at hm
      have h2 := farY_hit hm
      omega
    · have := farY_le l (7 + (T : Int) + 1)
      omega
  · intro _ hT
    rw [hc]
    by_cases h60 : 60 < T
    · have h1 := h (by omega)
      rw [farY_snoc l x _ (by rw [hx h60]; dsimp only; omega)]
      have h2 := farY_mono l (7 + (T : Int))
      simp only [List.length_append, List.length_singleton]
      omega
    · have := farY_le (l ++ [x]) (7 + (T : Int) + 1)
      simp only [List.length_append, List.length_singleton] at *
      omega
end Go.Proofs.Ytoofpajeogllhaa
