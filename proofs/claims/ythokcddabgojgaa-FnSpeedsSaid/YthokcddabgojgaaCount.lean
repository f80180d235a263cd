/-
  Least counts at a speed.
-/
import Derived.Test.YthokcddabgojgaaMove
namespace Go.Proofs.Ythokcddabgojgaa
open Go.RowKit

set_option maxHeartbeats 1000000 in
theorem s_CountsAt (a b c d s t l : Int) (w : World) :
    Calls Try.prog 6 #[.agg #[.int .i64 a, .int .i64 b], .agg #[.int .i64 c, .int .i64 d], .agg #[.int .i64 s, .int .i64 t], .int .i64 l] w
      fun e w' => e = .returned (.tuple #[.int .i64 (countsAt a b c d s t l).1, .bool (countsAt a b c d s t l).2]) ∧ Gw w w' := by
  go_enter Try.func6, Try.ntmps6
  go_wp2_with (first | (go_at_call 32; refine (s_stTwo _ _ _ _ _).mono ?_; rintro e w' (⟨hp, rfl, hb⟩ | ⟨hp, rfl, hb⟩) <;> (have hc := hb.cells; have hf := hb.frozens; have hz := hb.size; (try simp at hz); (try have hz0 : w.heap.size < w'.heap.size := (by omega)); (try have hz1 : w.heap.size + 1 < w'.heap.size := (by omega)); (try have hz2 : w.heap.size + 2 < w'.heap.size := (by omega)); (try have hz3 : w.heap.size + 3 < w'.heap.size := (by omega)); (try have hz4 : w.heap.size + 4 < w'.heap.size := (by omega)); (try have hz5 : w.heap.size + 5 < w'.heap.size := (by omega)))) | (go_at_call 33; refine (s_paGood _ _ _).mono ?_; rintro e w' (⟨hp, rfl, hb⟩ | ⟨hp, rfl, hb⟩) <;> (have hc := hb.cells; have hf := hb.frozens; have hz := hb.size; (try simp at hz); (try have hz0 : w.heap.size < w'.heap.size := (by omega)); (try have hz1 : w.heap.size + 1 < w'.heap.size := (by omega)); (try have hz2 : w.heap.size + 2 < w'.heap.size := (by omega)); (try have hz3 : w.heap.size + 3 < w'.heap.size := (by omega)); (try have hz4 : w.heap.size + 4 < w'.heap.size := (by omega)); (try have hz5 : w.heap.size + 5 < w'.heap.size := (by omega)))) | (go_at_call 34; refine (s_paLimit _ _).mono ?_; rintro e w' (⟨hp, rfl, rfl⟩ | ⟨hp, rfl, rfl⟩)))
  all_goals first | (go_ret2; exact ⟨ret_ib (f := countsAt a b c d s t l) (by unfold countsAt; rw [if_neg (by omega)]), by (repeat (first | with_reducible exact Gw.refl _ | with_reducible assumption | ((with_reducible refine Gw.set ?_ ?_ _); rotate_left; (focus (first | (simp; done) | (simp; omega) | omega))) | with_reducible refine Gw.alloc ?_ _ | with_reducible refine Gw.drew ?_ | with_reducible refine Gw.drewN ?_ _ | (refine Gw.trans ?_ (by with_reducible assumption))))⟩) | skip
  have hS : SpotP a b ∧ SpotP c d := by omega
  have hq := sq_bd hS.1 hS.2
  have hv : Hid ((SpotP a b ∧ SpotP c d) ∧ PaceP s t ∧ 40 ≤ l ∧ l ≤ 5280) := by unfold Hid; omega
  go_loopw [8, 9, 10, 11] (fun x y i _ wr => ∃ k : Nat, i = .int .i64 k ∧ 1 ≤ k ∧ k ≤ 65 ∧ x = .int .i64 0 ∧ y = .bool false ∧ Hid (firstUp (countOk a b c d s t l) (65 - k) k = countsAt a b c d s t l) ∧ Gw w' wr) (fun _ _ i _ _ => 65 - (intOf i).toNat)
  case atStart => exact ⟨1, by go_num, by omega, by omega, rfl, rfl, by unfold Hid countsAt; rw [if_pos hv.out]; rfl, by (repeat (first | with_reducible exact Gw.refl _ | with_reducible assumption | ((with_reducible refine Gw.set ?_ ?_ _); rotate_left; (focus (first | (simp; done) | (simp; omega) | omega))) | with_reducible refine Gw.alloc ?_ _ | with_reducible refine Gw.drew ?_ | with_reducible refine Gw.drewN ?_ _ | (refine Gw.trans ?_ (by with_reducible assumption))))⟩
  case round =>
    obtain ⟨k, rfl, hk1, hk2, rfl, rfl, hfu, hgw⟩ := hrel
    have hcr := hgw.cells
    have hzr := hgw.size
    have hzr0 : w.heap.size < wr.heap.size := by omega
    have hzr1 : w.heap.size + 1 < wr.heap.size := by omega
    have hzr2 : w.heap.size + 2 < wr.heap.size := by omega
    by_cases hk : k ≤ 64
    · by_cases hw : WithinP a b c d k s
      · have hd : decide (WithinP a b c d k s) = true := by simpa using hw
        by_cases hf : FastP a b c d k t l
        · have hfu' : Hid (firstUp (countOk a b c d s t l) (65 - (k + 1)) ((k + 1 : Nat) : Int) = countsAt a b c d s t l) := by
            have := firstUp_no hfu.out (by omega) (by rw [countOk_iff]; exact fun h => h.2 hf)
            rw [show 65 - (k + 1) = 65 - k - 1 by omega, show ((k + 1 : Nat) : Int) = (k : Int) + 1 by omega]
            exact this
          have hd2 : decide (sq a b c d * t * t ≤ l * l * k * k) = false := by simp; omega
          go_wp2_with (first | ((with_reducible refine wp_region_gw (by kernel_rfl) (by kernel_rfl) ?_); have hcq := @GwOf.cell; (repeat (go_big_quiet_step (first | (go_at_call 35; exact GwOf.callT hw (s_mvWithin _ _ _ _ _ _ _ hS.1 hS.2 (by omega) (by omega))) | (go_at_call 37; exact GwOf.call (s_stSquare _ _ _ _ _ hS.1 hS.2)) | (go_at_call 36; exact GwOf.callc (s_paFits _ _ _ _ _ (by omega) (by omega) (by omega) (by omega)))))); refine wpQuiet_nil ?_; clear hcq; rintro w' ⟨⟨w', hb⟩, rfl⟩; (try dsimp only); have hc := hb.cells; have hf := hb.frozens; have hz := hb.size; (try simp at hz); (try have hz0 : w.heap.size < w'.heap.size := (by omega)); (try have hz1 : w.heap.size + 1 < w'.heap.size := (by omega)); (try have hz2 : w.heap.size + 2 < w'.heap.size := (by omega)); (try have hz3 : w.heap.size + 3 < w'.heap.size := (by omega)); (try have hz4 : w.heap.size + 4 < w'.heap.size := (by omega)); (try have hz5 : w.heap.size + 5 < w'.heap.size := (by omega))))
          all_goals first | (exfalso; contradiction) | (exfalso; omega) | skip
          go_roundw
          case rel => exact ⟨k + 1, by go_num, by omega, by omega, rfl, rfl, hfu', by (repeat (first | with_reducible exact Gw.refl _ | with_reducible assumption | ((with_reducible refine Gw.set ?_ ?_ _); rotate_left; (focus (first | (simp; done) | (simp; omega) | omega))) | with_reducible refine Gw.alloc ?_ _ | with_reducible refine Gw.drew ?_ | with_reducible refine Gw.drewN ?_ _ | (refine Gw.trans ?_ (by with_reducible assumption))))⟩
          case measure => simp [intOf]; omega
        · have hfin : Hid (countsAt a b c d s t l = ((k : Int), true)) := firstUp_yes hfu.out (by omega) (by rw [countOk_iff]; exact ⟨hw, hf⟩)
          have hd2 : decide (sq a b c d * t * t ≤ l * l * k * k) = true := by simp; omega
          go_wp2_with (first | ((with_reducible refine wp_region_gw (by kernel_rfl) (by kernel_rfl) ?_); have hcq := @GwOf.cell; (repeat (go_big_quiet_step (first | (go_at_call 35; exact GwOf.callT hw (s_mvWithin _ _ _ _ _ _ _ hS.1 hS.2 (by omega) (by omega))) | (go_at_call 37; exact GwOf.call (s_stSquare _ _ _ _ _ hS.1 hS.2)) | (go_at_call 36; exact GwOf.callc (s_paFits _ _ _ _ _ (by omega) (by omega) (by omega) (by omega)))))); refine wpQuiet_nil ?_; clear hcq; rintro w' ⟨⟨w', hb⟩, rfl⟩; (try dsimp only); have hc := hb.cells; have hf := hb.frozens; have hz := hb.size; (try simp at hz); (try have hz0 : w.heap.size < w'.heap.size := (by omega)); (try have hz1 : w.heap.size + 1 < w'.heap.size := (by omega)); (try have hz2 : w.heap.size + 2 < w'.heap.size := (by omega)); (try have hz3 : w.heap.size + 3 < w'.heap.size := (by omega)); (try have hz4 : w.heap.size + 4 < w'.heap.size := (by omega)); (try have hz5 : w.heap.size + 5 < w'.heap.size := (by omega))))
          all_goals first | (exfalso; contradiction) | (exfalso; omega) | skip
          go_ret2
          exact ⟨ret_ib (f := countsAt a b c d s t l) hfin.out, by (repeat (first | with_reducible exact Gw.refl _ | with_reducible assumption | ((with_reducible refine Gw.set ?_ ?_ _); rotate_left; (focus (first | (simp; done) | (simp; omega) | omega))) | with_reducible refine Gw.alloc ?_ _ | with_reducible refine Gw.drew ?_ | with_reducible refine Gw.drewN ?_ _ | (refine Gw.trans ?_ (by with_reducible assumption))))⟩
      · have hd : decide (WithinP a b c d k s) = false := by simpa using hw
        have hfu' : Hid (firstUp (countOk a b c d s t l) (65 - (k + 1)) ((k + 1 : Nat) : Int) = countsAt a b c d s t l) := by
          have := firstUp_no hfu.out (by omega) (by rw [countOk_iff]; exact fun h => hw h.1)
          rw [show 65 - (k + 1) = 65 - k - 1 by omega, show ((k + 1 : Nat) : Int) = (k : Int) + 1 by omega]
          exact this
        go_wp2_with (first | ((with_reducible refine wp_region_gw (by kernel_rfl) (by kernel_rfl) ?_); have hcq := @GwOf.cell; (repeat (go_big_quiet_step (first | (go_at_call 35; exact GwOf.callF hw (s_mvWithin _ _ _ _ _ _ _ hS.1 hS.2 (by omega) (by omega))) | (go_at_call 37; exact GwOf.call (s_stSquare _ _ _ _ _ hS.1 hS.2)) | (go_at_call 36; exact GwOf.callc (s_paFits _ _ _ _ _ (by omega) (by omega) (by omega) (by omega)))))); refine wpQuiet_nil ?_; clear hcq; rintro w' ⟨⟨w', hb⟩, rfl⟩; (try dsimp only); have hc := hb.cells; have hf := hb.frozens; have hz := hb.size; (try simp at hz); (try have hz0 : w.heap.size < w'.heap.size := (by omega)); (try have hz1 : w.heap.size + 1 < w'.heap.size := (by omega)); (try have hz2 : w.heap.size + 2 < w'.heap.size := (by omega)); (try have hz3 : w.heap.size + 3 < w'.heap.size := (by omega)); (try have hz4 : w.heap.size + 4 < w'.heap.size := (by omega)); (try have hz5 : w.heap.size + 5 < w'.heap.size := (by omega))))
        all_goals first | (exfalso; contradiction) | (exfalso; omega) | skip
        go_roundw
        case rel => exact ⟨k + 1, by go_num, by omega, by omega, rfl, rfl, hfu', by (repeat (first | with_reducible exact Gw.refl _ | with_reducible assumption | ((with_reducible refine Gw.set ?_ ?_ _); rotate_left; (focus (first | (simp; done) | (simp; omega) | omega))) | with_reducible refine Gw.alloc ?_ _ | with_reducible refine Gw.drew ?_ | with_reducible refine Gw.drewN ?_ _ | (refine Gw.trans ?_ (by with_reducible assumption))))⟩
        case measure => simp [intOf]; omega
    · obtain rfl : k = 65 := by omega
      have hfin : Hid (countsAt a b c d s t l = (0, false)) := hfu.out.symm
      go_wp2
      go_ret2
      exact ⟨ret_ib (f := countsAt a b c d s t l) hfin.out, by (repeat (first | with_reducible exact Gw.refl _ | with_reducible assumption | ((with_reducible refine Gw.set ?_ ?_ _); rotate_left; (focus (first | (simp; done) | (simp; omega) | omega))) | with_reducible refine Gw.alloc ?_ _ | with_reducible refine Gw.drew ?_ | with_reducible refine Gw.drewN ?_ _ | (refine Gw.trans ?_ (by with_reducible assumption))))⟩

set_option maxHeartbeats 1000000 in
theorem i_CountsAt (a b c d s t l : Int) (w : World) :
    Calls Try.prog 5 #[.agg #[.int .i64 a, .int .i64 b], .agg #[.int .i64 c, .int .i64 d], .agg #[.int .i64 s, .int .i64 t], .int .i64 l] w
      fun e w' => e = .returned (.tuple #[.int .i64 (countsAt a b c d s t l).1, .bool (countsAt a b c d s t l).2]) ∧ Gw w w' := by
  go_enter Try.func5, Try.ntmps5
  go_wp2_with (first | (go_at_call 27; refine (i_IsSpot _ _ _).mono ?_; rintro e w' (⟨hp, rfl, hb⟩ | ⟨hp, rfl, hb⟩) <;> (have hc := hb.cells; have hf := hb.frozens; have hz := hb.size; (try simp at hz); (try have hz0 : w.heap.size < w'.heap.size := (by omega)); (try have hz1 : w.heap.size + 1 < w'.heap.size := (by omega)); (try have hz2 : w.heap.size + 2 < w'.heap.size := (by omega)); (try have hz3 : w.heap.size + 3 < w'.heap.size := (by omega)); (try have hz4 : w.heap.size + 4 < w'.heap.size := (by omega)); (try have hz5 : w.heap.size + 5 < w'.heap.size := (by omega)))) | (go_at_call 28; refine (i_IsPace _ _ _).mono ?_; rintro e w' (⟨hp, rfl, hb⟩ | ⟨hp, rfl, hb⟩) <;> (have hc := hb.cells; have hf := hb.frozens; have hz := hb.size; (try simp at hz); (try have hz0 : w.heap.size < w'.heap.size := (by omega)); (try have hz1 : w.heap.size + 1 < w'.heap.size := (by omega)); (try have hz2 : w.heap.size + 2 < w'.heap.size := (by omega)); (try have hz3 : w.heap.size + 3 < w'.heap.size := (by omega)); (try have hz4 : w.heap.size + 4 < w'.heap.size := (by omega)); (try have hz5 : w.heap.size + 5 < w'.heap.size := (by omega)))) | (go_at_call 29; refine (i_isLimit _ _).mono ?_; rintro e w' (⟨hp, rfl, rfl⟩ | ⟨hp, rfl, rfl⟩)))
  all_goals first | (go_ret2; exact ⟨ret_ib (f := countsAt a b c d s t l) (by unfold countsAt; rw [if_neg (by omega)]), by (repeat (first | with_reducible exact Gw.refl _ | with_reducible assumption | ((with_reducible refine Gw.set ?_ ?_ _); rotate_left; (focus (first | (simp; done) | (simp; omega) | omega))) | with_reducible refine Gw.alloc ?_ _ | with_reducible refine Gw.drew ?_ | with_reducible refine Gw.drewN ?_ _ | (refine Gw.trans ?_ (by with_reducible assumption))))⟩) | skip
  have hS : SpotP a b ∧ SpotP c d := by omega
  have hq := sq_bd hS.1 hS.2
  have hv : Hid ((SpotP a b ∧ SpotP c d) ∧ PaceP s t ∧ 40 ≤ l ∧ l ≤ 5280) := by unfold Hid; omega
  go_loopw [8, 9, 10, 11] (fun x y i _ wr => ∃ k : Nat, i = .int .i64 k ∧ 1 ≤ k ∧ k ≤ 65 ∧ x = .int .i64 0 ∧ y = .bool false ∧ Hid (firstUp (countOk a b c d s t l) (65 - k) k = countsAt a b c d s t l) ∧ Gw w' wr) (fun _ _ i _ _ => 65 - (intOf i).toNat)
  case atStart => exact ⟨1, by go_num, by omega, by omega, rfl, rfl, by unfold Hid countsAt; rw [if_pos hv.out]; rfl, by (repeat (first | with_reducible exact Gw.refl _ | with_reducible assumption | ((with_reducible refine Gw.set ?_ ?_ _); rotate_left; (focus (first | (simp; done) | (simp; omega) | omega))) | with_reducible refine Gw.alloc ?_ _ | with_reducible refine Gw.drew ?_ | with_reducible refine Gw.drewN ?_ _ | (refine Gw.trans ?_ (by with_reducible assumption))))⟩
  case round =>
    obtain ⟨k, rfl, hk1, hk2, rfl, rfl, hfu, hgw⟩ := hrel
    have hcr := hgw.cells
    have hzr := hgw.size
    have hzr0 : w.heap.size < wr.heap.size := by omega
    have hzr1 : w.heap.size + 1 < wr.heap.size := by omega
    have hzr2 : w.heap.size + 2 < wr.heap.size := by omega
    by_cases hk : k ≤ 64
    · by_cases hw : WithinP a b c d k s
      · have hd : decide (WithinP a b c d k s) = true := by simpa using hw
        by_cases hf : FastP a b c d k t l
        · have hfu' : Hid (firstUp (countOk a b c d s t l) (65 - (k + 1)) ((k + 1 : Nat) : Int) = countsAt a b c d s t l) := by
            have := firstUp_no hfu.out (by omega) (by rw [countOk_iff]; exact fun h => h.2 hf)
            rw [show 65 - (k + 1) = 65 - k - 1 by omega, show ((k + 1 : Nat) : Int) = (k : Int) + 1 by omega]
            exact this
          have hd2 : decide (sq a b c d * t * t ≤ l * l * k * k) = false := by simp; omega
          go_wp2_with (first | (go_at_call 30; refine (i_withinStep _ _ _ _ _ _ _ hS.1 hS.2 (by omega) (by omega)).mono ?_; rintro e w' (⟨hp, rfl, hb⟩ | ⟨hp, rfl, hb⟩) <;> (have hc := hb.cells; have hf := hb.frozens; have hz := hb.size; (try simp at hz); (try have hz0 : w.heap.size < w'.heap.size := (by omega)); (try have hz1 : w.heap.size + 1 < w'.heap.size := (by omega)); (try have hz2 : w.heap.size + 2 < w'.heap.size := (by omega)); (try have hz3 : w.heap.size + 3 < w'.heap.size := (by omega)); (try have hz4 : w.heap.size + 4 < w'.heap.size := (by omega)); (try have hz5 : w.heap.size + 5 < w'.heap.size := (by omega)))) | (go_at_call 31; refine (i_tooFast _ _ _ _ _ _ _ _ hS.1 hS.2 (by omega) (by omega) (by omega)).mono ?_; rintro e w' (⟨hp, rfl, hb⟩ | ⟨hp, rfl, hb⟩) <;> (have hc := hb.cells; have hf := hb.frozens; have hz := hb.size; (try simp at hz); (try have hz0 : w.heap.size < w'.heap.size := (by omega)); (try have hz1 : w.heap.size + 1 < w'.heap.size := (by omega)); (try have hz2 : w.heap.size + 2 < w'.heap.size := (by omega)); (try have hz3 : w.heap.size + 3 < w'.heap.size := (by omega)); (try have hz4 : w.heap.size + 4 < w'.heap.size := (by omega)); (try have hz5 : w.heap.size + 5 < w'.heap.size := (by omega)))))
          all_goals first | (exfalso; contradiction) | (exfalso; omega) | skip
          go_roundw
          case rel => exact ⟨k + 1, by go_num, by omega, by omega, rfl, rfl, hfu', by (repeat (first | with_reducible exact Gw.refl _ | with_reducible assumption | ((with_reducible refine Gw.set ?_ ?_ _); rotate_left; (focus (first | (simp; done) | (simp; omega) | omega))) | with_reducible refine Gw.alloc ?_ _ | with_reducible refine Gw.drew ?_ | with_reducible refine Gw.drewN ?_ _ | (refine Gw.trans ?_ (by with_reducible assumption))))⟩
          case measure => simp [intOf]; omega
        · have hfin : Hid (countsAt a b c d s t l = ((k : Int), true)) := firstUp_yes hfu.out (by omega) (by rw [countOk_iff]; exact ⟨hw, hf⟩)
          have hd2 : decide (sq a b c d * t * t ≤ l * l * k * k) = true := by simp; omega
          go_wp2_with (first | (go_at_call 30; refine (i_withinStep _ _ _ _ _ _ _ hS.1 hS.2 (by omega) (by omega)).mono ?_; rintro e w' (⟨hp, rfl, hb⟩ | ⟨hp, rfl, hb⟩) <;> (have hc := hb.cells; have hf := hb.frozens; have hz := hb.size; (try simp at hz); (try have hz0 : w.heap.size < w'.heap.size := (by omega)); (try have hz1 : w.heap.size + 1 < w'.heap.size := (by omega)); (try have hz2 : w.heap.size + 2 < w'.heap.size := (by omega)); (try have hz3 : w.heap.size + 3 < w'.heap.size := (by omega)); (try have hz4 : w.heap.size + 4 < w'.heap.size := (by omega)); (try have hz5 : w.heap.size + 5 < w'.heap.size := (by omega)))) | (go_at_call 31; refine (i_tooFast _ _ _ _ _ _ _ _ hS.1 hS.2 (by omega) (by omega) (by omega)).mono ?_; rintro e w' (⟨hp, rfl, hb⟩ | ⟨hp, rfl, hb⟩) <;> (have hc := hb.cells; have hf := hb.frozens; have hz := hb.size; (try simp at hz); (try have hz0 : w.heap.size < w'.heap.size := (by omega)); (try have hz1 : w.heap.size + 1 < w'.heap.size := (by omega)); (try have hz2 : w.heap.size + 2 < w'.heap.size := (by omega)); (try have hz3 : w.heap.size + 3 < w'.heap.size := (by omega)); (try have hz4 : w.heap.size + 4 < w'.heap.size := (by omega)); (try have hz5 : w.heap.size + 5 < w'.heap.size := (by omega)))))
          all_goals first | (exfalso; contradiction) | (exfalso; omega) | skip
          go_ret2
          exact ⟨ret_ib (f := countsAt a b c d s t l) hfin.out, by (repeat (first | with_reducible exact Gw.refl _ | with_reducible assumption | ((with_reducible refine Gw.set ?_ ?_ _); rotate_left; (focus (first | (simp; done) | (simp; omega) | omega))) | with_reducible refine Gw.alloc ?_ _ | with_reducible refine Gw.drew ?_ | with_reducible refine Gw.drewN ?_ _ | (refine Gw.trans ?_ (by with_reducible assumption))))⟩
      · have hd : decide (WithinP a b c d k s) = false := by simpa using hw
        have hfu' : Hid (firstUp (countOk a b c d s t l) (65 - (k + 1)) ((k + 1 : Nat) : Int) = countsAt a b c d s t l) := by
          have := firstUp_no hfu.out (by omega) (by rw [countOk_iff]; exact fun h => hw h.1)
          rw [show 65 - (k + 1) = 65 - k - 1 by omega, show ((k + 1 : Nat) : Int) = (k : Int) + 1 by omega]
          exact this
        go_wp2_with (first | (go_at_call 30; refine (i_withinStep _ _ _ _ _ _ _ hS.1 hS.2 (by omega) (by omega)).mono ?_; rintro e w' (⟨hp, rfl, hb⟩ | ⟨hp, rfl, hb⟩) <;> (have hc := hb.cells; have hf := hb.frozens; have hz := hb.size; (try simp at hz); (try have hz0 : w.heap.size < w'.heap.size := (by omega)); (try have hz1 : w.heap.size + 1 < w'.heap.size := (by omega)); (try have hz2 : w.heap.size + 2 < w'.heap.size := (by omega)); (try have hz3 : w.heap.size + 3 < w'.heap.size := (by omega)); (try have hz4 : w.heap.size + 4 < w'.heap.size := (by omega)); (try have hz5 : w.heap.size + 5 < w'.heap.size := (by omega)))) | (go_at_call 31; refine (i_tooFast _ _ _ _ _ _ _ _ hS.1 hS.2 (by omega) (by omega) (by omega)).mono ?_; rintro e w' (⟨hp, rfl, hb⟩ | ⟨hp, rfl, hb⟩) <;> (have hc := hb.cells; have hf := hb.frozens; have hz := hb.size; (try simp at hz); (try have hz0 : w.heap.size < w'.heap.size := (by omega)); (try have hz1 : w.heap.size + 1 < w'.heap.size := (by omega)); (try have hz2 : w.heap.size + 2 < w'.heap.size := (by omega)); (try have hz3 : w.heap.size + 3 < w'.heap.size := (by omega)); (try have hz4 : w.heap.size + 4 < w'.heap.size := (by omega)); (try have hz5 : w.heap.size + 5 < w'.heap.size := (by omega)))))
        all_goals first | (exfalso; contradiction) | (exfalso; omega) | skip
        go_roundw
        case rel => exact ⟨k + 1, by go_num, by omega, by omega, rfl, rfl, hfu', by (repeat (first | with_reducible exact Gw.refl _ | with_reducible assumption | ((with_reducible refine Gw.set ?_ ?_ _); rotate_left; (focus (first | (simp; done) | (simp; omega) | omega))) | with_reducible refine Gw.alloc ?_ _ | with_reducible refine Gw.drew ?_ | with_reducible refine Gw.drewN ?_ _ | (refine Gw.trans ?_ (by with_reducible assumption))))⟩
        case measure => simp [intOf]; omega
    · obtain rfl : k = 65 := by omega
      have hfin : Hid (countsAt a b c d s t l = (0, false)) := hfu.out.symm
      go_wp2
      go_ret2
      exact ⟨ret_ib (f := countsAt a b c d s t l) hfin.out, by (repeat (first | with_reducible exact Gw.refl _ | with_reducible assumption | ((with_reducible refine Gw.set ?_ ?_ _); rotate_left; (focus (first | (simp; done) | (simp; omega) | omega))) | with_reducible refine Gw.alloc ?_ _ | with_reducible refine Gw.drew ?_ | with_reducible refine Gw.drewN ?_ _ | (refine Gw.trans ?_ (by with_reducible assumption))))⟩

end Go.Proofs.Ythokcddabgojgaa
