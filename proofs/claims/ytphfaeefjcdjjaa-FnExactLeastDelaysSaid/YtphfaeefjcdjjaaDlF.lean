/-
  Whether two moves with delays come too close: both walks.
-/
import Derived.Test.YtphfaeefjcdjjaaDlE
namespace Go.Proofs.Ytphfaeefjcdjjaa
open Go.RowKit
set_option linter.unusedVariables false

set_option maxHeartbeats 8000000 in
set_option maxRecDepth 20000 in
theorem s_rpFirst (a b c d a' b' c' d' n p q : Int) (w : World) (hA : MvS a b c d n) (hB : MvS a' b' c' d' n) (hp : 0 ≤ p ∧ p ≤ 4) (hq : 0 ≤ q ∧ q ≤ 4) :
    Calls Try.prog 55 #[.agg #[.int .i64 a, .int .i64 b, .int .i64 c, .int .i64 d, .int .i64 n], .agg #[.int .i64 a', .int .i64 b', .int .i64 c', .int .i64 d', .int .i64 n], .int .i64 p, .int .i64 q] w fun e w' => e = .returned (.tuple #[.int .i64 (finS (minS (dX a c a' c' n p q) (dX b d b' d' n p q) (lenD n p q)) n).1, .int .i64 (finS (minS (dX a c a' c' n p q) (dX b d b' d' n p q) (lenD n p q)) n).2]) ∧ Gw w w' := by
  have hway := way_bd (p := p) (q := q) hA hB
  have hn := hA.2.2
  have T3 := fun k u hk => s_rpAt a b c d n p k u hA hp hk
  have T4 := fun k u hk => s_rpAt a' b' c' d' n q k u hB hq hk
  have XK : ∀ k : Nat, dX a c a' c' n p q k = atD a c n (tD n p (k : Int)) - atD a' c' n (tD n q (k : Int)) := fun k => rfl
  have YK : ∀ k : Nat, dX b d b' d' n p q k = atD b d n (tD n p (k : Int)) - atD b' d' n (tD n q (k : Int)) := fun k => rfl
  have XS : ∀ k : Nat, dX a c a' c' n p q (k + 1) = atD a c n (tD n p ((k : Int) + 1)) - atD a' c' n (tD n q ((k : Int) + 1)) := fun k => by unfold dX; rw [show ((k + 1 : Nat) : Int) = (k : Int) + 1 by omega]
  have YS : ∀ k : Nat, dX b d b' d' n p q (k + 1) = atD b d n (tD n p ((k : Int) + 1)) - atD b' d' n (tD n q ((k : Int) + 1)) := fun k => by unfold dX; rw [show ((k + 1 : Nat) : Int) = (k : Int) + 1 by omega]
  have PB : ∀ t : Int, ((0 ≤ atD a c n (tD n p t) ∧ atD a c n (tD n p t) ≤ 20480) ∧ 0 ≤ atD b d n (tD n p t) ∧ atD b d n (tD n p t) ≤ 10752) ∧ (0 ≤ atD a' c' n (tD n q t) ∧ atD a' c' n (tD n q t) ≤ 20480) ∧ 0 ≤ atD b' d' n (tD n q t) ∧ atD b' d' n (tD n q t) ≤ 10752 := fun t =>
    ⟨⟨atD_bd (M := 1280) (by omega) hA.1.1 hA.2.1.1 hn.2 (tD_bd (by omega)), atD_bd (M := 672) (by omega) hA.1.2 hA.2.1.2 hn.2 (tD_bd (by omega))⟩, atD_bd (M := 1280) (by omega) hB.1.1 hB.2.1.1 hn.2 (tD_bd (by omega)), atD_bd (M := 672) (by omega) hB.1.2 hB.2.1.2 hn.2 (tD_bd (by omega))⟩
  have hmin := minS_bd hway
  have hlen : ((lenD n p q : Nat) : Int) = n + max p q := by unfold lenD; omega
  have hlen' : 1 ≤ lenD n p q ∧ lenD n p q ≤ 20 := by omega
  generalize dX a c a' c' n p q = X at *
  generalize dX b d b' d' n p q = Y at *
  generalize lenD n p q = N at *
  have T3 := Lib.hid T3
  have T4 := Lib.hid T4
  have XS := Lib.hid XS
  have YS := Lib.hid YS
  have XK := Lib.hid XK
  have YK := Lib.hid YK
  have PB := Lib.hid PB
  have hway := Lib.hid hway
  have hmin := Lib.hid hmin
  clear hA hB
  have B4 : BoxR ((w.alloc (.cells #[.int .i64 a, .int .i64 b, .int .i64 c, .int .i64 d, .int .i64 n] 72)).alloc (.cells #[.int .i64 a', .int .i64 b', .int .i64 c', .int .i64 d', .int .i64 n] 72)) w.heap.size #[.int .i64 a, .int .i64 b, .int .i64 c, .int .i64 d, .int .i64 n] 72 := (BoxR.new w _ _).gw ((Gw.refl _).alloc _)
  have B5 : BoxR ((w.alloc (.cells #[.int .i64 a, .int .i64 b, .int .i64 c, .int .i64 d, .int .i64 n] 72)).alloc (.cells #[.int .i64 a', .int .i64 b', .int .i64 c', .int .i64 d', .int .i64 n] 72)) (w.heap.size + 1) #[.int .i64 a', .int .i64 b', .int .i64 c', .int .i64 d', .int .i64 n] 72 := by
    have := BoxR.new (w.alloc (.cells #[.int .i64 a, .int .i64 b, .int .i64 c, .int .i64 d, .int .i64 n] 72)) #[.int .i64 a', .int .i64 b', .int .i64 c', .int .i64 d', .int .i64 n] 72
    simpa only [World.size_alloc] using this
  have G0 : Gw w ((w.alloc (.cells #[.int .i64 a, .int .i64 b, .int .i64 c, .int .i64 d, .int .i64 n] 72)).alloc (.cells #[.int .i64 a', .int .i64 b', .int .i64 c', .int .i64 d', .int .i64 n] 72)) := ((Gw.refl w).alloc _).alloc _
  have B4 := Lib.hid B4
  have B5 := Lib.hid B5
  have G0 := Lib.hid G0

  go_enter Try.func55, Try.ntmps55
  go_wp2_with fail
  go_loopw [10, 11, 12, 13, 14, 15, 16, 17, 18, 19, 20, 21, 22] (fun tp bl ct _ _ _ _ _ _ _ _ _ _ wr => ∃ k : Nat, tp = .int .i64 (minS X Y k).1 ∧ bl = .int .i64 (minS X Y k).2 ∧ ct = .int .i64 (k : Int) ∧ k ≤ N ∧ Gw ((w.alloc (.cells #[.int .i64 a, .int .i64 b, .int .i64 c, .int .i64 d, .int .i64 n] 72)).alloc (.cells #[.int .i64 a', .int .i64 b', .int .i64 c', .int .i64 d', .int .i64 n] 72)) wr) (fun _ _ ct _ _ _ _ _ _ _ _ _ _ _ => N - (intOf ct).toNat)
  case atStart => exact ⟨0, rfl, rfl, by go_num, Nat.zero_le _, Gw.refl _⟩
  case round =>
    obtain ⟨k, rfl, rfl, rfl, hk, hg⟩ := hrel
    have Hk := Lib.hid hk
    have hzb := (B4.out.gw hg).lt
    have c4 := (B4.out.gw hg).cell 4 rfl
    by_cases hlt : k < N
    · have hltz : (k : Int) < n + max p q := by omega
      have hneg : (minS X Y k).1 < 0 ∧ k = 0 ∨ ¬(minS X Y k).1 < 0 ∧ FrB (minS X Y k) := by
        cases k with
        | zero => exact .inl ⟨(show (-1 : Int) < 0 by decide), rfl⟩
        | succ k => exact .inr ⟨Int.not_lt.2 (hmin.out k).1.1, hmin.out k⟩
      have wk : IntKind.i64.wrap ((k : Int) + 1) = ((k + 1 : Nat) : Int) := by rw [IntWalk.i64_in _ (by omega)]; omega
      have T5 := Lib.hid (fun u => T3.out ((k : Int) + 1) u ⟨by omega, by omega⟩)
      have T6 := Lib.hid (fun u => T4.out ((k : Int) + 1) u ⟨by omega, by omega⟩)
      have T3 := Lib.hid (fun u => T3.out (k : Int) u ⟨by omega, by omega⟩)
      have T4 := Lib.hid (fun u => T4.out (k : Int) u ⟨by omega, by omega⟩)
      have hx1 := XS.out k
      have hy1 := YS.out k
      have hx0 := XK.out k
      have hy0 := YK.out k
      have hpb := PB.out ((k : Int) + 1)
      have hpb0 := PB.out (k : Int)
      have hw1 := hway.out k
      have hw2 := (hway.out (k + 1)).1
      have hstep : minS X Y (k + 1) = if (minS X Y k).1 < 0 ∨ lessQ (segS (X k) (Y k) (X (k + 1)) (Y (k + 1))) (minS X Y k) then segS (X k) (Y k) (X (k + 1)) (Y (k + 1)) else minS X Y k := rfl
      rw [hx1, hy1, hx0, hy0] at hw1 hstep
      rw [hx1, hy1] at hw2
      clear hx1 hy1 hx0 hy0
      rw [show ((k + 1 : Nat) : Int) = (k : Int) + 1 by omega] at wk
      generalize atD a c n (tD n p ((k : Int) + 1)) = x1 at *
      generalize atD a' c' n (tD n q ((k : Int) + 1)) = u1 at *
      generalize atD b d n (tD n p ((k : Int) + 1)) = y1 at *
      generalize atD b' d' n (tD n q ((k : Int) + 1)) = v1 at *
      generalize atD a c n (tD n p (k : Int)) = x0 at *
      generalize atD a' c' n (tD n q (k : Int)) = u0 at *
      generalize atD b d n (tD n p (k : Int)) = y0 at *
      generalize atD b' d' n (tD n q (k : Int)) = v0 at *
      obtain ⟨mm, hmm⟩ : ∃ x, minS X Y (k + 1) = x := ⟨_, rfl⟩
      rw [hmm] at hstep
      have Hmm := Lib.hid hmm
      clear hmm
      have TP := fun u => s_rpPart (x0 - u0) (y0 - v0) (x1 - u1) (y1 - v1) u hw1.1.1 hw1.1.2 hw2.1 hw2.2 hw1.2.1 hw1.2.2
      have hsb := segS_bd hw1.1.1 hw1.1.2 hw2.1 hw2.2 hw1.2.1 hw1.2.2
      generalize segS (x0 - u0) (y0 - v0) (x1 - u1) (y1 - v1) = sg at *
      generalize minS X Y k = m at *
      obtain ⟨m1, m2⟩ := m
      obtain ⟨g1, g2⟩ := sg
      have hsb : (0 ≤ g1 ∧ g1 ≤ 10000000000000000) ∧ 1 ≤ g2 ∧ g2 ≤ 10000000 := hsb
      have hneg : m1 < 0 ∧ k = 0 ∨ ¬m1 < 0 ∧ (0 ≤ m1 ∧ m1 ≤ 10000000000000000) ∧ 1 ≤ m2 ∧ m2 ≤ 10000000 := hneg
      have TP := Lib.hid TP
      have Hst := Lib.hid hstep
      clear hstep
      have z0 := (B4.out.gw hg).cell 0 rfl
      have z1 := (B4.out.gw hg).cell 1 rfl
      have z2 := (B4.out.gw hg).cell 2 rfl
      have z3 := (B4.out.gw hg).cell 3 rfl
      have z4 := (B4.out.gw hg).cell 4 rfl

      go_wp2_with ((with_reducible refine wp_region_gw (by kernel_rfl) (by kernel_rfl) ?_); have hcq := @GwOf.cell; (repeat (go_big_quiet_step ((first | (go_at_call 59; exact GwOf.callq (s_l1Most _ _ _)))))); refine wpQuiet_nil ?_; clear hcq; rintro w' ⟨⟨w', hb⟩, rfl⟩; (try dsimp only); have hc := hb.cells; have hf := hb.frozens; have hz := hb.size; (try simp at hz); (try have hz0 : w.heap.size < w'.heap.size := (by omega)); (try have hz1 : w.heap.size + 1 < w'.heap.size := (by omega)); (try have hz2 : w.heap.size + 2 < w'.heap.size := (by omega)); (try have hz3 : w.heap.size + 3 < w'.heap.size := (by omega)); (try have hz4 : w.heap.size + 4 < w'.heap.size := (by omega)); (try have hz5 : w.heap.size + 5 < w'.heap.size := (by omega)))
      refine (T3.out _).mono ?_
      rintro _ w3 ⟨rfl, hb3⟩
      have g3 := Lib.hid (hg.trans (hb.trans hb3))
      clear z0 z1 z2 z3 z4

      have z0 := (B5.out.gw g3.out).cell 0 rfl
      have z1 := (B5.out.gw g3.out).cell 1 rfl
      have z2 := (B5.out.gw g3.out).cell 2 rfl
      have z3 := (B5.out.gw g3.out).cell 3 rfl
      have z4 := (B5.out.gw g3.out).cell 4 rfl

      dsimp only
      go_wp2_with fail
      refine (T4.out _).mono ?_
      rintro _ w4 ⟨rfl, hb4⟩
      have g4 := Lib.hid (g3.out.trans hb4)
      clear z0 z1 z2 z3 z4

      have z0 := (B4.out.gw g4.out).cell 0 rfl
      have z1 := (B4.out.gw g4.out).cell 1 rfl
      have z2 := (B4.out.gw g4.out).cell 2 rfl
      have z3 := (B4.out.gw g4.out).cell 3 rfl
      have z4 := (B4.out.gw g4.out).cell 4 rfl

      dsimp only
      go_wp2_with fail
      refine (T5.out _).mono ?_
      rintro _ w5 ⟨rfl, hb5⟩
      have g5 := Lib.hid (g4.out.trans hb5)
      clear z0 z1 z2 z3 z4

      have z0 := (B5.out.gw g5.out).cell 0 rfl
      have z1 := (B5.out.gw g5.out).cell 1 rfl
      have z2 := (B5.out.gw g5.out).cell 2 rfl
      have z3 := (B5.out.gw g5.out).cell 3 rfl
      have z4 := (B5.out.gw g5.out).cell 4 rfl

      dsimp only
      go_wp2_with fail
      refine (T6.out _).mono ?_
      rintro _ w6 ⟨rfl, hb6⟩
      have g6 := Lib.hid (g5.out.trans hb6)
      clear z0 z1 z2 z3 z4

      dsimp only
      go_wp2_with fail
      refine (TP.out _).mono ?_
      rintro _ w7 ⟨rfl, rfl⟩
      dsimp only
      rcases hneg with ⟨hm1, rfl⟩ | ⟨hm1, hmb⟩
      · have hm := Lib.hid (Hst.out.trans (if_pos (.inl hm1)))
        clear Hst
        go_wp2_with fail
        go_roundw
        case rel => exact ⟨0 + 1, by rw [Hmm.out, hm.out], by rw [Hmm.out, hm.out], by go_num, by omega, g6.out⟩
        case measure => simp [intOf]; omega
      · go_wp2_with (go_at_call 62; refine (s_apLess _ _ _ _ _ ⟨by omega, by omega⟩ ⟨by omega, by omega⟩ ⟨by omega, by omega⟩ ⟨by omega, by omega⟩).mono ?_; rintro _ w8 (⟨hl, rfl, hb8⟩ | ⟨hl, rfl, hb8⟩))
        · have hm := Lib.hid (Hst.out.trans (if_pos (.inr hl)))
          go_roundw
          case rel => exact ⟨k + 1, by rw [Hmm.out, hm.out], by rw [Hmm.out, hm.out], by go_num, by omega, g6.out.trans hb8⟩
          case measure => simp [intOf]; omega
        · have hm := Lib.hid (Hst.out.trans (if_neg (fun h => h.elim (fun g => absurd g (Int.not_lt.2 hmb.1.1)) hl)))
          go_roundw
          case rel => exact ⟨k + 1, by rw [Hmm.out, hm.out], by rw [Hmm.out, hm.out], by go_num, by omega, g6.out.trans hb8⟩
          case measure => simp [intOf]; omega
    · obtain rfl : k = N := by omega
      have hltz : ¬(k : Int) < n + max p q := by omega
      have hmk : FrB (minS X Y k) := by
        obtain ⟨j, rfl⟩ : ∃ j, k = j + 1 := ⟨k - 1, by omega⟩
        exact hmin.out j
      have hmn := mulnn hmk.2 hn
      have T6 := fun u => s_mvPart (minS X Y k).1 ((minS X Y k).2 * n * n) u hmk.1.1 hmk.1.2 hmn.2.1 (by omega)
      obtain ⟨fin, hfin2⟩ : ∃ x, finS (minS X Y k) n = x := ⟨_, rfl⟩
      have hfin : low (minS X Y k).1 ((minS X Y k).2 * n * n) = fin := hfin2
      rw [hfin] at T6
      have Hfin := Lib.hid hfin2
      clear hfin hfin2
      obtain ⟨m, hmm⟩ : ∃ x, minS X Y k = x := ⟨_, rfl⟩
      rw [hmm] at T6 hmn hmk ⊢
      clear hmm
      obtain ⟨m1, m2⟩ := m
      dsimp only at T6 hmn hmk ⊢
      have T6 := Lib.hid T6
      go_wp2_with ((with_reducible refine wp_region_gw (by kernel_rfl) (by kernel_rfl) ?_); have hcq := @GwOf.cell; (repeat (go_big_quiet_step ((first | (go_at_call 59; exact GwOf.callq (s_l1Most _ _ _)))))); refine wpQuiet_nil ?_; clear hcq; rintro w' ⟨⟨w', hb⟩, rfl⟩; (try dsimp only); have hc := hb.cells; have hf := hb.frozens; have hz := hb.size; (try simp at hz); (try have hz0 : w.heap.size < w'.heap.size := (by omega)); (try have hz1 : w.heap.size + 1 < w'.heap.size := (by omega)); (try have hz2 : w.heap.size + 2 < w'.heap.size := (by omega)); (try have hz3 : w.heap.size + 3 < w'.heap.size := (by omega)); (try have hz4 : w.heap.size + 4 < w'.heap.size := (by omega)); (try have hz5 : w.heap.size + 5 < w'.heap.size := (by omega)))
      all_goals
        refine (T6.out _).mono ?_
        rintro _ w8 ⟨rfl, hb8⟩
        dsimp only
        go_wp2_with fail
        go_ret2
        exact ⟨ret_ii Hfin.out, G0.out.trans (by (repeat (first | with_reducible exact Gw.refl _ | with_reducible assumption | ((with_reducible refine Gw.set ?_ ?_ _); rotate_left; (focus (first | (simp; done) | (simp; omega) | omega))) | with_reducible refine Gw.alloc ?_ _ | with_reducible refine Gw.drew ?_ | with_reducible refine Gw.drewN ?_ _ | (refine Gw.trans ?_ (by with_reducible assumption)))))⟩

theorem quo_ge {x y L : Int} (hx : 0 ≤ x) (hy : 1 ≤ y) : L ≤ x / y ↔ ¬x < L * y := by
  rw [Int.le_ediv_iff_mul_le (by omega)]
  omega

set_option maxHeartbeats 2000000 in
theorem s_rpFits (a b c d a' b' c' d' n p q least : Int) (w : World) (hA : MvS a b c d n) (hB : MvS a' b' c' d' n) (hp : 0 ≤ p ∧ p ≤ 4) (hq : 0 ≤ q ∧ q ≤ 4) (hl : 0 ≤ least ∧ least ≤ 80) :
    Calls Try.prog 47 #[.agg #[.int .i64 a, .int .i64 b, .int .i64 c, .int .i64 d, .int .i64 n], .agg #[.int .i64 a', .int .i64 b', .int .i64 c', .int .i64 d', .int .i64 n], .int .i64 p, .int .i64 q, .int .i64 least] w (Tells (¬CloseP a b c d a' b' c' d' n p q least) w) := by
  have T := fun u => s_rpFirst a b c d a' b' c' d' n p q u hA hB hp hq
  obtain ⟨k, hk⟩ : ∃ k, lenD n p q = k + 1 := ⟨lenD n p q - 1, by have := hA.2.2; unfold lenD; omega⟩
  have hm := minS_bd (way_bd (p := p) (q := q) hA hB) k
  rw [← hk] at hm
  have hiff := (finS_iff hm hA.2.2 (least * least)).trans (close_S hA.2.2 hp).symm
  have hb := finS_bd hm hA.2.2
  generalize finS (minS (dX a c a' c' n p q) (dX b d b' d' n p q) (lenD n p q)) n = fin at *
  obtain ⟨t, e⟩ := fin
  dsimp only at *
  have h1 := mul_in (x := least) (y := least) (m := 80) (n := 80) hl hl
  have hqg := quo_ge (L := least * least) hb.1.1 hb.2.1
  have hdb := Int.ediv_nonneg hb.1.1 (show 0 ≤ e by omega)
  have hde := Int.ediv_le_self e hb.1.1
  have HI := Lib.hid hiff
  have HQ := Lib.hid hqg
  have T := Lib.hid T
  clear hiff hm hA hB hqg hk
  go_enter Try.func47, Try.ntmps47
  go_wp2_with fail
  refine (T.out _).mono ?_
  rintro _ w2 ⟨rfl, hb2⟩
  dsimp only
  go_wp2_with ((with_reducible refine wp_region_gw (by kernel_rfl) (by kernel_rfl) ?_); have hcq := @GwOf.cell; (repeat (go_big_quiet_step (fail))); refine wpQuiet_nil ?_; clear hcq; rintro w' ⟨⟨w', hb⟩, rfl⟩; (try dsimp only); have hc := hb.cells; have hf := hb.frozens; have hz := hb.size; (try simp at hz); (try have hz0 : w.heap.size < w'.heap.size := (by omega)); (try have hz1 : w.heap.size + 1 < w'.heap.size := (by omega)); (try have hz2 : w.heap.size + 2 < w'.heap.size := (by omega)); (try have hz3 : w.heap.size + 3 < w'.heap.size := (by omega)); (try have hz4 : w.heap.size + 4 < w'.heap.size := (by omega)); (try have hz5 : w.heap.size + 5 < w'.heap.size := (by omega)))
  go_ret
  exact tells_of (by rw [← HI.out]; have := HQ.out; simp only [decide_eq_true_eq]; omega) (((Gw.refl w).alloc _ |>.alloc _).trans hb2)
end Go.Proofs.Ytphfaeefjcdjjaa
