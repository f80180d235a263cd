/-
  The least square of two moves with delays: the program's minimum and the reference's are below the same numbers.
-/
import Derived.Test.YtphfaeefjcdjjaaBase
namespace Go.Proofs.Ytphfaeefjcdjjaa

/-- Where a performer is along one axis (times the counts), t counts on the way. -/
def atD (x y n t : Int) : Int := x * n + t * (y - x)
def tD (n d c : Int) : Int := min (max (c - d) 0) n
def segI (x y u v : Int) : Int × Int :=
  if x * (u - x) + y * (v - y) < 0 ∧ -(x * (u - x) + y * (v - y)) < (u - x) * (u - x) + (v - y) * (v - y) then
    ((x * (v - y) - y * (u - x)) * (x * (v - y) - y * (u - x)), (u - x) * (u - x) + (v - y) * (v - y))
  else (u * u + v * v, 1)
def segS (x y u v : Int) : Int × Int :=
  if 0 < -(x * (u - x) + y * (v - y)) ∧ -(x * (u - x) + y * (v - y)) < (u - x) * (u - x) + (v - y) * (v - y) then
    ((x * v - y * u) * (x * v - y * u), (u - x) * (u - x) + (v - y) * (v - y))
  else (min (x * x + y * y) (u * u + v * v), 1)
def lessQ (a b : Int × Int) : Prop := a.1 * b.2 < b.1 * a.2
instance (a b : Int × Int) : Decidable (lessQ a b) := inferInstanceAs (Decidable (_ < _))
def minI (X Y : Nat → Int) : Nat → Int × Int
  | 0 => (X 0 * X 0 + Y 0 * Y 0, 1)
  | k + 1 => if lessQ (segI (X k) (Y k) (X (k + 1)) (Y (k + 1))) (minI X Y k) then segI (X k) (Y k) (X (k + 1)) (Y (k + 1)) else minI X Y k
def minS (X Y : Nat → Int) : Nat → Int × Int
  | 0 => (-1, 1)
  | k + 1 => if (minS X Y k).1 < 0 ∨ lessQ (segS (X k) (Y k) (X (k + 1)) (Y (k + 1))) (minS X Y k) then segS (X k) (Y k) (X (k + 1)) (Y (k + 1)) else minS X Y k

/-- A fraction is below a number. -/
abbrev BelowQ (a : Int × Int) (K : Int) : Prop := a.1 < K * a.2

theorem segI_pos (x y u v : Int) : 0 < (segI x y u v).2 := by
  unfold segI
  split
  · next h => have := h.1; have := h.2; dsimp only; omega
  · exact Int.one_pos
theorem segS_pos (x y u v : Int) : 0 < (segS x y u v).2 := by
  unfold segS
  split
  · next h => have := h.1; have := h.2; dsimp only; omega
  · exact Int.one_pos
theorem sq_nn (x : Int) : 0 ≤ x * x := by
  rcases Int.le_total 0 x with h | h
  · exact Int.mul_nonneg h h
  · rw [← Int.neg_mul_neg]; exact Int.mul_nonneg (by omega) (by omega)
theorem segS_nn (x y u v : Int) : 0 ≤ (segS x y u v).1 := by
  unfold segS
  split
  · exact sq_nn _
  · have := sq_nn x; have := sq_nn y; have := sq_nn u; have := sq_nn v; dsimp only; omega
theorem segI_nn (x y u v : Int) : 0 ≤ (segI x y u v).1 := by
  unfold segI
  split
  · exact sq_nn _
  · have := sq_nn u; have := sq_nn v; dsimp only; omega
theorem minI_pos (X Y : Nat → Int) : ∀ k, 0 < (minI X Y k).2
  | 0 => Int.one_pos
  | k + 1 => by
    rw [minI]
    split
    · exact segI_pos _ _ _ _
    · exact minI_pos X Y k
theorem minS_pos (X Y : Nat → Int) : ∀ k, 0 < (minS X Y k).2
  | 0 => Int.one_pos
  | k + 1 => by
    rw [minS]
    split
    · exact segS_pos _ _ _ _
    · exact minS_pos X Y k
theorem minI_nn (X Y : Nat → Int) : ∀ k, 0 ≤ (minI X Y k).1
  | 0 => by have := sq_nn (X 0); have := sq_nn (Y 0); show 0 ≤ X 0 * X 0 + Y 0 * Y 0; omega
  | k + 1 => by
    rw [minI]
    split
    · exact segI_nn _ _ _ _
    · exact minI_nn X Y k
theorem minS_nn (X Y : Nat → Int) (k : Nat) : 0 ≤ (minS X Y (k + 1)).1 := by
  rw [minS]
  split
  · exact segS_nn _ _ _ _
  · next h => exact Int.not_lt.1 fun g => h (.inl g)
/-- The smaller of two fractions is below a number iff one of them is. -/
theorem less_below {a b : Int × Int} {K : Int} (ha : 0 < a.2) (hb : 0 < b.2) (h : lessQ a b) (hK : BelowQ b K) : BelowQ a K := by
  unfold lessQ at h
  unfold BelowQ at *
  have h1 : b.1 * a.2 < K * b.2 * a.2 := Int.mul_lt_mul_of_pos_right hK ha
  have h2 : a.1 * b.2 < K * a.2 * b.2 := by
    have : K * b.2 * a.2 = K * a.2 * b.2 := by rw [Int.mul_right_comm]
    omega
  exact Int.lt_of_mul_lt_mul_right h2 (Int.le_of_lt hb)
theorem notless_below {a b : Int × Int} {K : Int} (ha : 0 < a.2) (hb : 0 < b.2) (h : ¬lessQ a b) (hK : BelowQ a K) : BelowQ b K := by
  unfold lessQ at h
  unfold BelowQ at *
  have h1 : a.1 * b.2 < K * a.2 * b.2 := Int.mul_lt_mul_of_pos_right hK hb
  have h2 : b.1 * a.2 < K * b.2 * a.2 := by
    have : K * b.2 * a.2 = K * a.2 * b.2 := by rw [Int.mul_right_comm]
    omega
  exact Int.lt_of_mul_lt_mul_right h2 (Int.le_of_lt ha)
theorem minI_iff (X Y : Nat → Int) (K : Int) : ∀ k, BelowQ (minI X Y k) K ↔ X 0 * X 0 + Y 0 * Y 0 < K ∨ ∃ c, c < k ∧ BelowQ (segI (X c) (Y c) (X (c + 1)) (Y (c + 1))) K
  | 0 => by
    constructor
    · intro h
      have h : X 0 * X 0 + Y 0 * Y 0 < K * 1 := h
      exact .inl (by omega)
    · rintro (h | ⟨c, hc, _⟩)
      · show X 0 * X 0 + Y 0 * Y 0 < K * 1
        omega
      · omega
  | k + 1 => by
    have ih := minI_iff X Y K k
    have p1 := segI_pos (X k) (Y k) (X (k + 1)) (Y (k + 1))
    have p2 := minI_pos X Y k
    rw [minI]
    split
    · next hl =>
      constructor
      · intro h; exact .inr ⟨k, by omega, h⟩
      · rintro (h | ⟨c, hc, h⟩)
        · exact less_below p1 p2 hl (ih.2 (.inl h))
        · by_cases hck : c = k
          · subst hck; exact h
          · exact less_below p1 p2 hl (ih.2 (.inr ⟨c, by omega, h⟩))
    · next hl =>
      constructor
      · intro h
        rcases ih.1 h with h | ⟨c, hc, h⟩
        · exact .inl h
        · exact .inr ⟨c, by omega, h⟩
      · rintro (h | ⟨c, hc, h⟩)
        · exact ih.2 (.inl h)
        · by_cases hck : c = k
          · subst hck; exact notless_below p1 p2 hl h
          · exact ih.2 (.inr ⟨c, by omega, h⟩)
theorem minS_iff (X Y : Nat → Int) (K : Int) : ∀ k, BelowQ (minS X Y (k + 1)) K ↔ ∃ c, c < k + 1 ∧ BelowQ (segS (X c) (Y c) (X (c + 1)) (Y (c + 1))) K
  | 0 => by
    rw [minS, if_pos (.inl (show (-1 : Int) < 0 by decide))]
    constructor
    · intro h; exact ⟨0, by omega, h⟩
    · rintro ⟨c, hc, h⟩
      obtain rfl : c = 0 := by omega
      exact h
  | k + 1 => by
    have ih := minS_iff X Y K k
    have p1 := segS_pos (X (k + 1)) (Y (k + 1)) (X (k + 1 + 1)) (Y (k + 1 + 1))
    have p2 := minS_pos X Y (k + 1)
    have p3 := minS_nn X Y k
    rw [minS]
    split
    · next hl =>
      have hl : lessQ _ _ := hl.resolve_left (by omega)
      constructor
      · intro h; exact ⟨k + 1, by omega, h⟩
      · rintro ⟨c, hc, h⟩
        by_cases hck : c = k + 1
        · subst hck; exact h
        · exact less_below p1 p2 hl (ih.2 ⟨c, by omega, h⟩)
    · next hl =>
      have hl := fun h => hl (.inr h)
      constructor
      · intro h
        obtain ⟨c, hc, h⟩ := ih.1 h
        exact ⟨c, by omega, h⟩
      · rintro ⟨c, hc, h⟩
        by_cases hck : c = k + 1
        · subst hck; exact notless_below p1 p2 hl h
        · exact ih.2 ⟨c, by omega, h⟩
theorem lagr_a (x y a b : Int) : (x * b - y * a) * (x * b - y * a) + (x * a + y * b) * (x * a + y * b) = (x * x + y * y) * (a * a + b * b) := by grind
theorem cross_b (x y u v : Int) : x * (v - y) - y * (u - x) = x * v - y * u := by grind
theorem cross_u (x y u v : Int) : x * (v - y) - y * (u - x) = u * (v - y) - v * (u - x) := by grind
theorem cross_le (x y a b : Int) : (x * b - y * a) * (x * b - y * a) ≤ (x * x + y * y) * (a * a + b * b) := by
  have := lagr_a x y a b
  have := sq_nn (x * a + y * b)
  omega
theorem seg_below (x y u v K : Int) : (BelowQ (segS x y u v) K ↔ BelowQ (segI x y u v) K ∨ x * x + y * y < K) ∧ (u * u + v * v < K → BelowQ (segI x y u v) K) := by
  by_cases h : x * (u - x) + y * (v - y) < 0 ∧ -(x * (u - x) + y * (v - y)) < (u - x) * (u - x) + (v - y) * (v - y)
  · have hs : segS x y u v = segI x y u v := by
      unfold segS segI
      rw [if_pos h, if_pos ⟨by omega, h.2⟩, cross_b]
    have hp := segI_pos x y u v
    have hI : segI x y u v = ((x * (v - y) - y * (u - x)) * (x * (v - y) - y * (u - x)), (u - x) * (u - x) + (v - y) * (v - y)) := by unfold segI; rw [if_pos h]
    have h1 := cross_le x y (u - x) (v - y)
    have h2 := cross_le u v (u - x) (v - y)
    rw [← cross_u] at h2
    rw [hs]
    rw [hI] at hp ⊢
    dsimp only at hp
    generalize (x * (v - y) - y * (u - x)) * (x * (v - y) - y * (u - x)) = C at *
    generalize (u - x) * (u - x) + (v - y) * (v - y) = S at *
    have key : ∀ P : Int, C ≤ P * S → P < K → C < K * S := fun P a b => by
      have := Int.mul_lt_mul_of_pos_right b hp
      omega
    exact ⟨⟨fun g => .inl g, fun g => g.elim id (key _ h1)⟩, key _ h2⟩
  · have hI : segI x y u v = (u * u + v * v, 1) := by unfold segI; rw [if_neg h]
    have hS : segS x y u v = (min (x * x + y * y) (u * u + v * v), 1) := by unfold segS; rw [if_neg (fun g => h ⟨by omega, g.2⟩)]
    rw [hI, hS]
    unfold BelowQ
    dsimp only
    generalize x * x + y * y = a
    generalize u * u + v * v = b
    omega
/-- The program's least square is below a number iff the reference's is. -/
theorem min_below (X Y : Nat → Int) (K : Int) (k : Nat) : BelowQ (minI X Y (k + 1)) K ↔ BelowQ (minS X Y (k + 1)) K := by
  rw [minI_iff, minS_iff]
  constructor
  · rintro (h | ⟨c, hc, h⟩)
    · exact ⟨0, by omega, (seg_below _ _ _ _ _).1.2 (.inr h)⟩
    · exact ⟨c, hc, (seg_below _ _ _ _ _).1.2 (.inl h)⟩
  · rintro ⟨c, hc, h⟩
    rcases (seg_below _ _ _ _ _).1.1 h with h | h
    · exact .inr ⟨c, hc, h⟩
    · cases c with
      | zero => exact .inl h
      | succ c => exact .inr ⟨c, by omega, (seg_below _ _ _ _ _).2 h⟩
end Go.Proofs.Ytphfaeefjcdjjaa
