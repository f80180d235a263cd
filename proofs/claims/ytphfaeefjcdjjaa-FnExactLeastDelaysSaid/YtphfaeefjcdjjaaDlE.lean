/-
  Whether two moves with delays come too close: both walks.
-/
import Derived.Test.YtphfaeefjcdjjaaDlD
namespace Go.Proofs.Ytphfaeefjcdjjaa
open Go.RowKit
set_option linter.unusedVariables false

/-- Products of bounded numbers. -/
theorem mul_in {x y m n : Int} (h : 0 ≤ x ∧ x ≤ m) (h' : 0 ≤ y ∧ y ≤ n) : 0 ≤ x * y ∧ x * y ≤ m * n :=
  ⟨Int.mul_nonneg h.1 h'.1, Int.mul_le_mul h.2 h'.2 h'.1 (by omega)⟩

/-- Two moves with delays come closer than a distance. -/
def CloseP (a b c d a' b' c' d' n p q least : Int) : Prop := BelowQ (minI (dX a c a' c' n p q) (dX b d b' d' n p q) (lenD n p q)) (least * least * n * n)
theorem close_S {a b c d a' b' c' d' n p q least : Int} (hn : 1 ≤ n ∧ n ≤ 16) (hp : 0 ≤ p ∧ p ≤ 4) : CloseP a b c d a' b' c' d' n p q least ↔ BelowQ (minS (dX a c a' c' n p q) (dX b d b' d' n p q) (lenD n p q)) (least * least * n * n) := by
  unfold CloseP
  obtain ⟨k, hk⟩ : ∃ k, lenD n p q = k + 1 := ⟨lenD n p q - 1, by unfold lenD; omega⟩
  rw [hk]
  exact min_below _ _ _ _

set_option maxHeartbeats 2000000 in
theorem i_closeDelayed (a b c d a' b' c' d' n p q least : Int) (w : World) (hA : MvS a b c d n) (hB : MvS a' b' c' d' n) (hp : 0 ≤ p ∧ p ≤ 4) (hq : 0 ≤ q ∧ q ≤ 4) (hl : 0 ≤ least ∧ least ≤ 80) :
    Calls Try.prog 33 #[.agg #[.int .i64 a, .int .i64 b, .int .i64 c, .int .i64 d, .int .i64 n], .agg #[.int .i64 a', .int .i64 b', .int .i64 c', .int .i64 d', .int .i64 n], .int .i64 p, .int .i64 q, .int .i64 least] w (Tells (CloseP a b c d a' b' c' d' n p q least) w) := by
  have T := fun u => i_leastDelayed a b c d a' b' c' d' n p q u hA hB hp hq
  have hm := minI_bd (way_bd (p := p) (q := q) hA hB) (lenD n p q)
  have hiff : _ ↔ CloseP a b c d a' b' c' d' n p q least := finI_iff hm hA.2.2 (least * least)
  have hb := finI_bd hm hA.2.2
  generalize finI (minI (dX a c a' c' n p q) (dX b d b' d' n p q) (lenD n p q)) n = fin at *
  obtain ⟨t, e⟩ := fin
  dsimp only at *
  have h1 := mul_in (x := least) (y := least) (m := 80) (n := 80) hl hl
  have h2 := mul_in (x := least * least) (y := e) (m := 6400) (n := 2560000000) (by omega) (by omega)
  have HI := Lib.hid hiff
  have T := Lib.hid T
  clear hiff hm hA hB
  go_enter Try.func33, Try.ntmps33
  go_wp2_with fail
  refine (T.out _).mono ?_
  rintro _ w2 ⟨rfl, hb2⟩
  dsimp only
  go_wp2_with fail
  go_ret
  exact tells_of (by rw [← HI.out]; simp) (((Gw.refl w).alloc _ |>.alloc _).trans hb2)
end Go.Proofs.Ytphfaeefjcdjjaa
