/-
  Speeds of moves, least counts at a speed.
-/
import Derived.Test.YthokcddabgojgaaSpot
namespace Go.Proofs.Ythokcddabgojgaa
open Go.RowKit

/-- The first number from n on, of so many, that has a property. -/
def firstUp (C : Int → Bool) : Nat → Int → Int × Bool
  | 0, _ => (0, false)
  | f + 1, n => if C n = true then (n, true) else firstUp C f (n + 1)
theorem firstUp_yes {C : Int → Bool} {f : Nat} {n : Int} {r : Int × Bool} (h : firstUp C f n = r) (hf : 0 < f) (hc : C n = true) : r = (n, true) := by
  obtain ⟨g, rfl⟩ : ∃ g, f = g + 1 := ⟨f - 1, by omega⟩
  rw [← h, firstUp, if_pos hc]
theorem firstUp_no {C : Int → Bool} {f : Nat} {n : Int} {r : Int × Bool} (h : firstUp C f n = r) (hf : 0 < f) (hc : ¬C n = true) : firstUp C (f - 1) (n + 1) = r := by
  obtain ⟨g, rfl⟩ : ∃ g, f = g + 1 := ⟨f - 1, by omega⟩
  rw [firstUp, if_neg hc] at h
  exact h

def countOk (a b c d s t l : Int) (n : Int) : Bool := decide (WithinP a b c d n s) && decide (¬FastP a b c d n t l)
def countsAt (a b c d s t l : Int) : Int × Bool := if (SpotP a b ∧ SpotP c d) ∧ PaceP s t ∧ 40 ≤ l ∧ l ≤ 5280 then firstUp (countOk a b c d s t l) 64 1 else (0, false)
def moveSpeed (a b c d n t : Int) : Int × Int × Bool := if MoveP a b c d n ∧ 40 ≤ t ∧ t ≤ 220 then ((low (sq a b c d * t * t) (n * n)).1, (low (sq a b c d * t * t) (n * n)).2, true) else (0, 0, false)

theorem nn_bd {n : Int} (hn : 1 ≤ n ∧ n ≤ 64) : 1 ≤ n * n ∧ n * n ≤ 4096 := by
  have h1 := Int.mul_le_mul (show 1 ≤ n by omega) (show 1 ≤ n by omega) (by omega) (by omega)
  have h2 := mul_in (x := n) (y := n) ⟨by omega, hn.2⟩ ⟨by omega, hn.2⟩
  omega

set_option maxHeartbeats 400000 in
theorem s_MoveSpeed (a b c d n t : Int) (w : World) :
    Calls Try.prog 12 #[.agg #[.int .i64 a, .int .i64 b, .int .i64 c, .int .i64 d, .int .i64 n], .int .i64 t] w fun e w' => e = .returned (.tuple #[.int .i64 (moveSpeed a b c d n t).1, .int .i64 (moveSpeed a b c d n t).2.1, .bool (moveSpeed a b c d n t).2.2]) ∧ Gw w w' := by
  have m1 := @nn_bd n
  have m2 : MoveP a b c d n → 0 ≤ sq a b c d ∧ sq a b c d ≤ 2089984 := fun h => sq_bd h.1 h.2.1
  have m3 : MoveP a b c d n → 40 ≤ t ∧ t ≤ 220 → (0 ≤ sq a b c d * t ∧ sq a b c d * t ≤ 459796480) ∧ 0 ≤ sq a b c d * t * t ∧ sq a b c d * t * t ≤ 101155225600 := fun h h' => (fast_bd (l := 40) (m2 h) ⟨by omega, h'.2⟩ (by omega) h.2.2).1
  go_enter Try.func12, Try.ntmps12
  go_wp2_with (first | (go_at_call 56; refine (s_mvGood _ _ _ _ _ _).mono ?_; rintro e w' (⟨hp, rfl, hb⟩ | ⟨hp, rfl, hb⟩) <;> (have hc := hb.cells; have hf := hb.frozens; have hz := hb.size; (try simp at hz); (try have hz0 : w.heap.size < w'.heap.size := (by omega)); (try have hz1 : w.heap.size + 1 < w'.heap.size := (by omega)); (try have hz2 : w.heap.size + 2 < w'.heap.size := (by omega)); (try have hz3 : w.heap.size + 3 < w'.heap.size := (by omega)); (try have hz4 : w.heap.size + 4 < w'.heap.size := (by omega)); (try have hz5 : w.heap.size + 5 < w'.heap.size := (by omega)))) | (go_at_call 57; refine (s_paTempo _ _).mono ?_; rintro e w' (⟨hp, rfl, rfl⟩ | ⟨hp, rfl, rfl⟩)) | ((with_reducible refine wp_region_gw (by kernel_rfl) (by kernel_rfl) ?_); have hcq := @GwOf.cell; (repeat (go_big_quiet_step (first | (go_at_call 37; exact GwOf.call (s_stSquare _ _ _ _ _ (by omega) (by omega))) | (go_at_call 58; exact GwOf.call (s_mvPart _ _ _ (by omega) (by omega) (by omega) (by omega)))))); refine wpQuiet_nil ?_; clear hcq; rintro w' ⟨⟨w', hb⟩, rfl⟩; (try dsimp only); have hc := hb.cells; have hf := hb.frozens; have hz := hb.size; (try simp at hz); (try have hz0 : w.heap.size < w'.heap.size := (by omega)); (try have hz1 : w.heap.size + 1 < w'.heap.size := (by omega)); (try have hz2 : w.heap.size + 2 < w'.heap.size := (by omega)); (try have hz3 : w.heap.size + 3 < w'.heap.size := (by omega)); (try have hz4 : w.heap.size + 4 < w'.heap.size := (by omega)); (try have hz5 : w.heap.size + 5 < w'.heap.size := (by omega))))
  all_goals
    go_ret3
    exact ⟨ret_iib (f := moveSpeed a b c d n t) (by unfold moveSpeed; first | rw [if_pos (by omega)] | rw [if_neg (by omega)]), by (repeat (first | with_reducible exact Gw.refl _ | with_reducible assumption | ((with_reducible refine Gw.set ?_ ?_ _); rotate_left; (focus (first | (simp; done) | (simp; omega) | omega))) | with_reducible refine Gw.alloc ?_ _ | with_reducible refine Gw.drew ?_ | with_reducible refine Gw.drewN ?_ _ | (refine Gw.trans ?_ (by with_reducible assumption))))⟩

set_option maxHeartbeats 400000 in
theorem i_MoveSpeed (a b c d n t : Int) (w : World) :
    Calls Try.prog 11 #[.agg #[.int .i64 a, .int .i64 b, .int .i64 c, .int .i64 d, .int .i64 n], .int .i64 t] w fun e w' => e = .returned (.tuple #[.int .i64 (moveSpeed a b c d n t).1, .int .i64 (moveSpeed a b c d n t).2.1, .bool (moveSpeed a b c d n t).2.2]) ∧ Gw w w' := by
  have m1 := @nn_bd n
  have m2 : MoveP a b c d n → 0 ≤ sq a b c d ∧ sq a b c d ≤ 2089984 := fun h => sq_bd h.1 h.2.1
  have m3 : MoveP a b c d n → 40 ≤ t ∧ t ≤ 220 → (0 ≤ sq a b c d * t ∧ sq a b c d * t ≤ 459796480) ∧ 0 ≤ sq a b c d * t * t ∧ sq a b c d * t * t ≤ 101155225600 := fun h h' => (fast_bd (l := 40) (m2 h) ⟨by omega, h'.2⟩ (by omega) h.2.2).1
  go_enter Try.func11, Try.ntmps11
  go_wp2_with (first | (go_at_call 52; refine (i_IsMove _ _ _ _ _ _).mono ?_; rintro e w' (⟨hp, rfl, hb⟩ | ⟨hp, rfl, hb⟩) <;> (have hc := hb.cells; have hf := hb.frozens; have hz := hb.size; (try simp at hz); (try have hz0 : w.heap.size < w'.heap.size := (by omega)); (try have hz1 : w.heap.size + 1 < w'.heap.size := (by omega)); (try have hz2 : w.heap.size + 2 < w'.heap.size := (by omega)); (try have hz3 : w.heap.size + 3 < w'.heap.size := (by omega)); (try have hz4 : w.heap.size + 4 < w'.heap.size := (by omega)); (try have hz5 : w.heap.size + 5 < w'.heap.size := (by omega)))) | (go_at_call 53; refine (i_isTempo _ _).mono ?_; rintro e w' (⟨hp, rfl, rfl⟩ | ⟨hp, rfl, rfl⟩)) | ((with_reducible refine wp_region_gw (by kernel_rfl) (by kernel_rfl) ?_); have hcq := @GwOf.cell; (repeat (go_big_quiet_step (first | (go_at_call 55; exact GwOf.call (i_squareOf _ _ _ _ _ (by omega) (by omega))) | (go_at_call 54; exact GwOf.call (i_lowestTerms _ _ _ (by omega) (by omega) (by omega) (by omega)))))); refine wpQuiet_nil ?_; clear hcq; rintro w' ⟨⟨w', hb⟩, rfl⟩; (try dsimp only); have hc := hb.cells; have hf := hb.frozens; have hz := hb.size; (try simp at hz); (try have hz0 : w.heap.size < w'.heap.size := (by omega)); (try have hz1 : w.heap.size + 1 < w'.heap.size := (by omega)); (try have hz2 : w.heap.size + 2 < w'.heap.size := (by omega)); (try have hz3 : w.heap.size + 3 < w'.heap.size := (by omega)); (try have hz4 : w.heap.size + 4 < w'.heap.size := (by omega)); (try have hz5 : w.heap.size + 5 < w'.heap.size := (by omega))))
  all_goals
    go_ret3
    exact ⟨ret_iib (f := moveSpeed a b c d n t) (by unfold moveSpeed; first | rw [if_pos (by omega)] | rw [if_neg (by omega)]), by (repeat (first | with_reducible exact Gw.refl _ | with_reducible assumption | ((with_reducible refine Gw.set ?_ ?_ _); rotate_left; (focus (first | (simp; done) | (simp; omega) | omega))) | with_reducible refine Gw.alloc ?_ _ | with_reducible refine Gw.drew ?_ | with_reducible refine Gw.drewN ?_ _ | (refine Gw.trans ?_ (by with_reducible assumption))))⟩


theorem countOk_iff {a b c d s t l n : Int} : countOk a b c d s t l n = true ↔ WithinP a b c d n s ∧ ¬FastP a b c d n t l := by simp [countOk]

end Go.Proofs.Ythokcddabgojgaa
