/-
  Booked ones, plain: who is told hour by hour, and hours add up.
-/
import Derived.Test.YtgbgmmdpldekbaaDoorWinP
import Derived.Test.YtgbgmmdpldekbaaDoorWho
import Derived.Test.YtgbgmmdpldekbaaDoorHours
import Derived.Test.YtgbgmmdpldekbaaDoorSched
import Derived.Test.YtgbgmmdpldekbaaDoorPlanP
namespace Go.Proofs.YtgbgmmdpldekbaaDoor
open Go.RowKit

theorem book_apart {l : List B4} (hP : BookP l) {i j : Nat} {x y : B4} {p h : Int} (hx : l[i]? = some x) (hy : l[j]? = some y) (ax : atP p h x = true) (ay : atP p h y = true) : i = j := by
  simp only [decide_eq_true_eq] at ax ay
  by_cases hij : i = j
  · exact hij
  · exfalso
    rcases Nat.lt_or_gt_of_ne hij with h1 | h1
    · exact hP.2.1 j i y x h1 hy hx ⟨.inr (by omega), by omega, by omega⟩
    · exact hP.2.1 i j x y h1 hx hy ⟨.inr (by omega), by omega, by omega⟩
theorem who_at {l : List B4} (hP : BookP l) {x : B4} {p h : Int} (hx : x ∈ l) (ax : atP p h x = true) : l.find? (atP p h) = some x := by
  obtain ⟨i, hi⟩ := List.getElem?_of_mem hx
  cases hf : l.find? (atP p h) with
  | none => exact absurd ax (List.find?_eq_none.1 hf x hx)
  | some y =>
    obtain ⟨j, hj⟩ := List.getElem?_of_mem (List.mem_of_find?_eq_some hf)
    have := book_apart hP hi hj ax (List.find?_some hf)
    subst this
    rw [hi] at hj
    exact hj.symm
theorem who_last {l : List B4} (hP : BookP l) {x : B4} (hx : x ∈ l) : whoF l x.2.1 (x.2.2.2 - 1) = (x.1, true) := by
  have h1 := hP.1 x hx
  unfold whoF
  rw [if_pos ⟨hP, ⟨by omega, by omega⟩, ⟨by omega, by omega⟩⟩, who_at hP hx (decide_eq_true ⟨rfl, by omega, by omega⟩)]
  rfl
theorem end_ge {l : List B4} {x : B4} (hx : x ∈ l) : x.2.2.2 ≤ endF l := by
  have : ∀ (l : List B4) (m : Int), m ≤ l.foldl (fun m x => max m x.2.2.2) m ∧ ∀ x ∈ l, x.2.2.2 ≤ l.foldl (fun m x => max m x.2.2.2) m := by
    intro l
    induction l with
    | nil => intro m; exact ⟨Int.le_refl _, fun x h => by simp at h⟩
    | cons y l ih =>
      intro m
      obtain ⟨h1, h2⟩ := ih (max m y.2.2.2)
      refine ⟨by rw [List.foldl_cons]; omega, fun x hx => ?_⟩
      rw [List.foldl_cons]
      rcases List.mem_cons.1 hx with rfl | hx
      · omega
      · exact h2 x hx
  exact (this l 0).2 x hx
/-- Who is told in place p + 1 and hour h is section s. -/
def wcell (l : List B4) (s : Int) (p h : Nat) : Bool := decide (whoR (l.find? (atP ((p : Int) + 1) (h : Int))) = (s, true))
def tot (f : Nat → Nat → Bool) : Nat → Nat
  | 0 => 0
  | P + 1 => tot f P + cnt (f P) 168
theorem tot_ext {f g : Nat → Nat → Bool} : ∀ {n}, (∀ p k, p < n → k < 168 → f p k = g p k) → tot f n = tot g n
  | 0, _ => rfl
  | n + 1, h => by
    show tot f n + cnt (f n) 168 = tot g n + cnt (g n) 168
    rw [tot_ext (n := n) (fun p k hp hk => h p k (by omega) hk), cnt_ext (fun k hk => h n k (by omega) hk)]
theorem tot_or {f g : Nat → Nat → Bool} : ∀ {n}, (∀ p k, p < n → k < 168 → ¬(f p k = true ∧ g p k = true)) → tot (fun p k => f p k || g p k) n = tot f n + tot g n
  | 0, _ => rfl
  | n + 1, h => by
    show tot (fun p k => f p k || g p k) n + cnt (fun k => f n k || g n k) 168 = tot f n + cnt (f n) 168 + (tot g n + cnt (g n) 168)
    rw [tot_or (n := n) (fun p k hp hk => h p k (by omega) hk), cnt_or (fun k hk => h n k (by omega) hk)]
    omega
theorem tot_none {f : Nat → Nat → Bool} : ∀ {n}, (∀ p k, p < n → k < 168 → f p k = false) → tot f n = 0
  | 0, _ => rfl
  | n + 1, h => by
    show tot f n + cnt (f n) 168 = 0
    rw [tot_none (n := n) (fun p k hp hk => h p k (by omega) hk), cnt_none (fun k hk => h n k (by omega) hk)]
theorem tot_one {q : Int} {g : Nat → Bool} (h1 : 1 ≤ q) : ∀ {n : Nat}, tot (fun p k => decide (q = (p : Int) + 1) && g k) n = if q ≤ (n : Int) then cnt g 168 else 0
  | 0 => by
    show 0 = _
    rw [if_neg (by omega)]
  | n + 1 => by
    show tot (fun p k => decide (q = (p : Int) + 1) && g k) n + cnt (fun k => decide (q = (n : Int) + 1) && g k) 168 = _
    rw [tot_one h1 (n := n)]
    by_cases hq : q = (n : Int) + 1
    · have h0 : cnt (fun k => decide (q = (n : Int) + 1) && g k) 168 = cnt g 168 := cnt_ext (fun k _ => by simp [hq])
      rw [if_neg (by omega), if_pos (by omega), h0]
      omega
    · have h0 : cnt (fun k => decide (q = (n : Int) + 1) && g k) 168 = 0 := cnt_none (fun k _ => by simp [hq])
      rw [h0]
      by_cases h2 : q ≤ (n : Int)
      · rw [if_pos h2, if_pos (by omega), Nat.add_zero]
      · rw [if_neg h2, if_neg (by omega)]
theorem tot_bd (f : Nat → Nat → Bool) : ∀ n, tot f n ≤ 168 * n
  | 0 => Nat.le_refl _
  | n + 1 => by
    show tot f n + cnt (f n) 168 ≤ _
    have := tot_bd f n
    have : ∀ (g : Nat → Bool) m, cnt g m ≤ m := by
      intro g m
      induction m with
      | zero => exact Nat.le_refl _
      | succ m ih =>
        show cnt g m + _ ≤ m + 1
        split <;> omega
    have := this (f n) 168
    omega
theorem book_init {l : List B4} {x : B4} (h : BookP (l ++ [x])) : BookP l := by
  refine ⟨fun y hy => h.1 y (List.mem_append_left _ hy), fun i j y z hij hy hz => ?_, by have := h.2.2; simp at this; omega⟩
  have hi := (List.getElem?_eq_some_iff.1 hy).1
  have hj := (List.getElem?_eq_some_iff.1 hz).1
  exact h.2.1 i j y z hij (by rw [List.getElem?_append_left hi]; exact hy) (by rw [List.getElem?_append_left hj]; exact hz)
theorem wcell_snoc {l : List B4} {x : B4} {s : Int} {p h : Nat} (hP : BookP (l ++ [x])) :
    wcell (l ++ [x]) s p h = (wcell l s p h || (decide (x.1 = s) && atP ((p : Int) + 1) (h : Int) x)) ∧ ¬(wcell l s p h = true ∧ (decide (x.1 = s) && atP ((p : Int) + 1) (h : Int) x) = true) := by
  unfold wcell
  rw [List.find?_append]
  cases hf : l.find? (atP ((p : Int) + 1) (h : Int)) with
  | none =>
    cases ha : atP ((p : Int) + 1) (h : Int) x with
    | true =>
      rw [List.find?_cons, ha]
      by_cases hs : x.1 = s
      · simp [whoR, hs]
      · simp [whoR, hs]
    | false =>
      rw [List.find?_cons, ha]
      simp [whoR]
  | some y =>
    have hm := List.mem_of_find?_eq_some hf
    have hy := List.find?_some hf
    have ha : atP ((p : Int) + 1) (h : Int) x = false := by
      cases ha : atP ((p : Int) + 1) (h : Int) x with
      | false => rfl
      | true =>
        obtain ⟨j, hj⟩ := List.getElem?_of_mem hm
        have hjl := (List.getElem?_eq_some_iff.1 hj).1
        have := book_apart hP (i := j) (j := l.length) (by rw [List.getElem?_append_left hjl]; exact hj) (by simp) hy ha
        omega
    rw [ha]
    simp [whoR]
theorem hours_count {s : Int} : ∀ (n : Nat) (l : List B4), l.length = n → BookP l → sumH s l = (tot (wcell l s) 9 : Int)
  | 0, l, hn, _ => by
    obtain rfl := List.eq_nil_of_length_eq_zero hn
    rw [tot_none (f := wcell [] s) (fun p k _ _ => by simp [wcell, whoR])]
    rfl
  | n + 1, l, hn, hP => by
    obtain ⟨m, x, rfl⟩ : ∃ m x, l = m ++ [x] := by
      have hne : l ≠ [] := by rintro rfl; simp at hn
      exact ⟨l.dropLast, l.getLast hne, (List.dropLast_concat_getLast hne).symm⟩
    have hm : m.length = n := by simpa using hn
    have ih := hours_count (s := s) n m hm (book_init hP)
    have hx := hP.1 x (by simp)
    rw [sumH_snoc, ih, tot_ext (g := fun p k => wcell m s p k || (decide (x.1 = s) && atP ((p : Int) + 1) (k : Int) x)) (fun p k _ _ => (wcell_snoc hP).1), tot_or (f := wcell m s) (g := fun p k => decide (x.1 = s) && atP ((p : Int) + 1) (k : Int) x) (fun p k _ _ => (wcell_snoc hP).2)]
    by_cases hs : x.1 = s
    · rw [if_pos hs, tot_ext (f := fun p k => decide (x.1 = s) && atP ((p : Int) + 1) (k : Int) x) (g := fun p k => decide (x.2.1 = (p : Int) + 1) && decide (x.2.2.1 ≤ (k : Int) ∧ (k : Int) < x.2.2.2)) (fun p k _ _ => by simp [hs]), tot_one (by omega), if_pos (show x.2.1 ≤ ((9 : Nat) : Int) by omega)]
      obtain ⟨a1, a2, a3, a4, a5⟩ := hx
      have h3 : (cnt (fun k => decide (x.2.2.1 ≤ (k : Int) ∧ (k : Int) < x.2.2.2)) 168 : Int) = x.2.2.2 - x.2.2.1 := by
        rw [cnt_range x.2.2.1 x.2.2.2 a3 (Int.le_of_lt a4) 168]
        have : ((168 : Nat) : Int) = 168 := rfl
        split
        · omega
        · split <;> omega
      omega
    · rw [if_neg hs, tot_none (f := fun p k => decide (x.1 = s) && atP ((p : Int) + 1) (k : Int) x) (fun p k _ _ => by simp [hs])]
      omega
theorem who_cell {l : List B4} {s : Int} {p h : Nat} (hP : BookP l) (hp : p < 9) (hh : h < 168) : wcell l s p h = ((whoF l ((p : Int) + 1) (h : Int)).2 && decide ((whoF l ((p : Int) + 1) (h : Int)).1 = s)) := by
  have he : whoF l ((p : Int) + 1) (h : Int) = whoR (l.find? (atP ((p : Int) + 1) (h : Int))) := by
    unfold whoF
    rw [if_pos ⟨hP, ⟨by omega, by omega⟩, ⟨by omega, by omega⟩⟩]
  unfold wcell
  rw [he]
  cases whoR (l.find? (atP ((p : Int) + 1) (h : Int))) with
  | mk a b => cases b <;> simp
end Go.Proofs.YtgbgmmdpldekbaaDoor
