/-
  The rows of sections, plain.
-/
import Derived.Test.YtbhkcbfmlniamaaDoorGridB
namespace Go.Proofs.YtbhkcbfmlniamaaDoor
open Go.RowKit

/-- How many rows of width w hold n players. -/
def nch (w n : Nat) : Nat := (n + w - 1) / w
theorem nch_iff {w n j : Nat} (hw : 1 ≤ w) : j < nch w n ↔ j * w < n := by
  unfold nch
  rw [← Nat.succ_le_iff, Nat.le_div_iff_mul_le (by omega), Nat.succ_mul]
  omega
def rowAt (F : Int) (w n j : Nat) : List Int := fromN (F + ((j * w : Nat) : Int)) (min w (n - j * w))
/-- The rows of one section. -/
def rowsS (F : Int) (w n : Nat) : List (List Int) := (List.range (nch w n)).map (rowAt F w n)
theorem rowsS_len (F : Int) (w n : Nat) : (rowsS F w n).length = nch w n := by simp [rowsS]
theorem rowsS_get {F : Int} {w n j : Nat} (h : j < nch w n) : (rowsS F w n)[j]? = some (rowAt F w n j) := by simp [rowsS, h]
theorem nch_zero (w : Nat) (hw : 1 ≤ w) : nch w 0 = 0 := by
  rcases Nat.eq_zero_or_pos (nch w 0) with h | h
  · exact h
  · have := (nch_iff (j := 0) hw).1 h; omega
theorem nch_le {w n : Nat} (hw : 1 ≤ w) : nch w n ≤ n := by
  rcases Nat.eq_zero_or_pos (nch w n) with h | h
  · omega
  · have h1 := (nch_iff (w := w) (n := n) (j := nch w n - 1) hw).1 (by omega)
    have h2 := Nat.le_mul_of_pos_right (nch w n - 1) (show 0 < w by omega)
    omega
theorem nch_eq {w n q : Nat} (hw : 1 ≤ w) (h1 : n ≤ q * w) (h2 : q = 0 ∨ (q - 1) * w < n) : nch w n = q := by
  have ha : ¬q < nch w n := fun h => by have := (nch_iff hw).1 h; omega
  rcases h2 with rfl | h2
  · omega
  · have := (nch_iff hw).2 h2; omega
/-- What the program puts on ahead of player k. -/
def rowsY (F : Int) (w k : Nat) : List (List Int) := if k % w = 0 then rowsS F w k ++ [[]] else rowsS F w k
theorem rowsS_step (F : Int) {w k : Nat} (hw : 1 ≤ w) : ∃ q, (rowsY F w k).length = q + 1 ∧ ∃ last, (rowsY F w k)[q]? = some last ∧ last.length ≤ w ∧ rowsS F w (k + 1) = (rowsY F w k).set q (last ++ [F + (k : Int)]) := by
  have hd := Nat.div_add_mod k w
  have hm := Nat.mod_lt k (show 0 < w by omega)
  have hc : w * (k / w) = k / w * w := Nat.mul_comm _ _
  generalize k / w = q at hd hc
  generalize hr : k % w = r at hd hm
  have hs1 : (q + 1) * w = q * w + w := Nat.succ_mul _ _
  have n1 : nch w (k + 1) = q + 1 := nch_eq hw (by omega) (.inr (by rw [Nat.add_sub_cancel]; omega))
  have old : ∀ j, j < q → rowAt F w k j = rowAt F w (k + 1) j := by
    intro j hj
    have h1 : (j + 1) * w ≤ q * w := Nat.mul_le_mul_right _ hj
    rw [Nat.succ_mul] at h1
    unfold rowAt
    rw [show min w (k - j * w) = min w (k + 1 - j * w) by omega]
  by_cases h0 : r = 0
  · have n0 : nch w k = q := nch_eq hw (by omega) (by
      rcases Nat.eq_zero_or_pos q with h | h
      · exact .inl h
      · right
        have : (q - 1 + 1) * w = (q - 1) * w + w := Nat.succ_mul _ _
        rw [Nat.sub_add_cancel h] at this
        omega)
    have hY : rowsY F w k = rowsS F w k ++ [[]] := by unfold rowsY; rw [hr, if_pos h0]
    have hl : (rowsS F w k).length = q := by rw [rowsS_len, n0]
    refine ⟨q, by rw [hY]; simp [hl], [], by rw [hY, ← hl]; simp, by simp, ?_⟩
    apply List.ext_getElem?
    intro j
    rw [hY]
    by_cases hj : j < q
    · rw [List.getElem?_set_ne (by omega), List.getElem?_append_left (by omega), rowsS_get (by omega), rowsS_get (by omega), old j hj]
    · by_cases hj2 : j = q
      · subst hj2
        rw [List.getElem?_set_self (by simp [hl]), rowsS_get (by omega)]
        unfold rowAt
        rw [show min w (k + 1 - j * w) = 0 + 1 by omega, fromN_succ]
        simp [fromN]
        omega
      · rw [List.getElem?_eq_none (by rw [rowsS_len, n1]; omega), List.getElem?_eq_none (by simp [hl]; omega)]
  · have n0 : nch w k = q + 1 := nch_eq hw (by omega) (.inr (by rw [Nat.add_sub_cancel]; omega))
    have hY : rowsY F w k = rowsS F w k := by unfold rowsY; rw [hr, if_neg h0]
    have hl : (rowsS F w k).length = q + 1 := by rw [rowsS_len, n0]
    refine ⟨q, by rw [hY, hl], rowAt F w k q, by rw [hY, rowsS_get (by omega)], by unfold rowAt; rw [fromN_len]; omega, ?_⟩
    apply List.ext_getElem?
    intro j
    rw [hY]
    by_cases hj : j < q
    · rw [List.getElem?_set_ne (by omega), rowsS_get (by omega), rowsS_get (by omega), old j hj]
    · by_cases hj2 : j = q
      · subst hj2
        rw [List.getElem?_set_self (by omega), rowsS_get (by omega)]
        unfold rowAt
        rw [show min w (k + 1 - j * w) = (k - j * w) + 1 by omega, show min w (k - j * w) = k - j * w by omega, fromN_succ]
        congr 3
        omega
      · rw [List.getElem?_eq_none (by rw [rowsS_len, n1]; omega), List.getElem?_eq_none (by simp [hl]; omega)]
/-- The rows of the first k sections. -/
def rowsTo (l : List Sec) (w : Nat) : Nat → List (List Int)
  | 0 => []
  | k + 1 => rowsTo l w k ++ rowsS (ssum (l.take k)) w ((l[k]?.getD (ByteArray.empty, 0, 0)).2.1.toNat)
theorem rowsTo_succ {l : List Sec} {w k : Nat} {x : Sec} (h : l[k]? = some x) : rowsTo l w (k + 1) = rowsTo l w k ++ rowsS (ssum (l.take k)) w x.2.1.toNat := by
  show _ ++ rowsS _ _ ((l[k]?.getD (ByteArray.empty, 0, 0)).2.1.toNat) = _
  rw [h]
  rfl
end Go.Proofs.YtbhkcbfmlniamaaDoor
