/-
  The least square of two moves with delays: the program's walk.
-/
import Derived.Test.YtphfaeefjcdjjaaDlC
import Derived.Test.YtphfaeefjcdjjaaBox
namespace Go.Proofs.Ytphfaeefjcdjjaa
open Go.RowKit
set_option linter.unusedVariables false

theorem low_spec {X Y : Int} (hX : 0 ≤ X) (hY : 1 ≤ Y) : ∃ g : Int, 1 ≤ g ∧ X = (low X Y).1 * g ∧ Y = (low X Y).2 * g ∧ 0 ≤ (low X Y).1 ∧ 1 ≤ (low X Y).2 ∧ (low X Y).1 ≤ X ∧ (low X Y).2 ≤ Y := by
  have hg : 0 < Int.gcd X Y := Int.gcd_pos_of_ne_zero_right _ (by omega)
  have h1 : (Int.gcd X Y : Int) ∣ X := Int.gcd_dvd_left ..
  have h2 : (Int.gcd X Y : Int) ∣ Y := Int.gcd_dvd_right ..
  have hgi : (1 : Int) ≤ (Int.gcd X Y : Int) := by omega
  generalize hgd : (Int.gcd X Y : Int) = g at *
  have e1 : X / g * g = X := Int.ediv_mul_cancel h1
  have e2 : Y / g * g = Y := Int.ediv_mul_cancel h2
  have n1 : 0 ≤ X / g := Int.ediv_nonneg hX (by omega)
  have n2 : 0 ≤ Y / g := Int.ediv_nonneg (by omega) (by omega)
  have n3 : 1 ≤ Y / g := by
    rcases Int.lt_or_le (Y / g) 1 with h | h
    · have : Y / g = 0 := by omega
      rw [this] at e2
      omega
    · exact h
  have l1 : X / g ≤ X := Int.ediv_le_self _ hX
  have l2 : Y / g ≤ Y := Int.ediv_le_self _ (by omega)
  have hl : low X Y = (X / g, Y / g) := by unfold low; rw [hgd]
  rw [hl]
  exact ⟨g, hgi, e1.symm, e2.symm, n1, n3, l1, l2⟩

theorem low_bel {X Y : Int} (hX : 0 ≤ X) (hY : 1 ≤ Y) (K : Int) : (low X Y).1 < K * (low X Y).2 ↔ X < K * Y := by
  obtain ⟨g, hg, e1, e2, -⟩ := low_spec hX hY
  generalize (low X Y).1 = j at *
  generalize (low X Y).2 = k at *
  subst e1
  subst e2
  rw [← Int.mul_assoc]
  constructor
  · intro h
    exact Int.mul_lt_mul_of_pos_right h (by omega)
  · intro h
    exact Int.lt_of_mul_lt_mul_right h (by omega)
abbrev WayB (X Y : Nat → Int) : Prop := ∀ k, ((-20480 ≤ X k ∧ X k ≤ 20480) ∧ -10752 ≤ Y k ∧ Y k ≤ 10752) ∧ (-2560 ≤ X (k + 1) - X k ∧ X (k + 1) - X k ≤ 2560) ∧ -1344 ≤ Y (k + 1) - Y k ∧ Y (k + 1) - Y k ≤ 1344
theorem way_bd {a b c d a' b' c' d' n p q : Int} (hA : MvS a b c d n) (hB : MvS a' b' c' d' n) : WayB (dX a c a' c' n p q) (dX b d b' d' n p q) := fun k => by
  have h1 := dX_bd (M := 1280) (p := p) (q := q) (by omega) hA.1.1 hA.2.1.1 hB.1.1 hB.2.1.1 hA.2.2 k
  have h2 := dX_bd (M := 672) (p := p) (q := q) (by omega) hA.1.2 hA.2.1.2 hB.1.2 hB.2.1.2 hA.2.2 k
  omega
abbrev FrB (m : Int × Int) : Prop := (0 ≤ m.1 ∧ m.1 ≤ 10000000000000000) ∧ 1 ≤ m.2 ∧ m.2 ≤ 10000000
theorem minI_bd {X Y : Nat → Int} (h : WayB X Y) : ∀ k, FrB (minI X Y k)
  | 0 => by
    have := side_bd (h 0).1.1 (h 0).1.2
    show (0 ≤ X 0 * X 0 + Y 0 * Y 0 ∧ X 0 * X 0 + Y 0 * Y 0 ≤ 10000000000000000) ∧ (1 : Int) ≤ 1 ∧ (1 : Int) ≤ 10000000
    omega
  | k + 1 => by
    rw [minI]
    split
    · exact segI_bd (h k).1.1 (h k).1.2 (h (k + 1)).1.1 (h (k + 1)).1.2 (h k).2.1 (h k).2.2
    · exact minI_bd h k
theorem minS_bd {X Y : Nat → Int} (h : WayB X Y) : ∀ k, FrB (minS X Y (k + 1))
  | 0 => by
    rw [minS, if_pos (.inl (show (-1 : Int) < 0 by decide))]
    exact segS_bd (h 0).1.1 (h 0).1.2 (h 1).1.1 (h 1).1.2 (h 0).2.1 (h 0).2.2
  | k + 1 => by
    rw [minS]
    split
    · exact segS_bd (h (k + 1)).1.1 (h (k + 1)).1.2 (h (k + 1 + 1)).1.1 (h (k + 1 + 1)).1.2 (h (k + 1)).2.1 (h (k + 1)).2.2
    · exact minS_bd h k
def finI (m : Int × Int) (n : Int) : Int × Int := low (low m.1 m.2).1 ((low m.1 m.2).2 * n * n)
def finS (m : Int × Int) (n : Int) : Int × Int := low m.1 (m.2 * n * n)
theorem mulnn {x n : Int} (hx : 1 ≤ x ∧ x ≤ 10000000) (hn : 1 ≤ n ∧ n ≤ 16) : (1 ≤ x * n ∧ x * n ≤ 160000000) ∧ 1 ≤ x * n * n ∧ x * n * n ≤ 2560000000 := by
  have h1 : (1 : Int) * 1 ≤ x * n := Int.mul_le_mul hx.1 hn.1 (by omega) (by omega)
  have h2 : x * n ≤ 10000000 * 16 := Int.mul_le_mul hx.2 hn.2 (by omega) (by omega)
  have h3 : (1 : Int) * 1 ≤ x * n * n := Int.mul_le_mul (by omega) hn.1 (by omega) (by omega)
  have h4 : x * n * n ≤ 160000000 * 16 := Int.mul_le_mul (by omega) hn.2 (by omega) (by omega)
  omega
theorem low_bd {m : Int × Int} (h : FrB m) : FrB (low m.1 m.2) := by
  obtain ⟨g, -, -, -, h1, h2, h3, h4⟩ := low_spec h.1.1 h.2.1
  omega
theorem finI_iff {m : Int × Int} {n : Int} (h : FrB m) (hn : 1 ≤ n ∧ n ≤ 16) (L : Int) : (finI m n).1 < L * (finI m n).2 ↔ BelowQ m (L * n * n) := by
  have h1 := low_bd h
  have h2 := mulnn h1.2 hn
  unfold finI
  rw [low_bel h1.1.1 h2.2.1, show L * ((low m.1 m.2).2 * n * n) = L * n * n * (low m.1 m.2).2 by grind, low_bel h.1.1 h.2.1]
theorem finS_iff {m : Int × Int} {n : Int} (h : FrB m) (hn : 1 ≤ n ∧ n ≤ 16) (L : Int) : (finS m n).1 < L * (finS m n).2 ↔ BelowQ m (L * n * n) := by
  have h2 := mulnn h.2 hn
  unfold finS
  rw [low_bel h.1.1 h2.2.1, show L * (m.2 * n * n) = L * n * n * m.2 by grind]
theorem finI_bd {m : Int × Int} {n : Int} (h : FrB m) (hn : 1 ≤ n ∧ n ≤ 16) : (0 ≤ (finI m n).1 ∧ (finI m n).1 ≤ 10000000000000000) ∧ 1 ≤ (finI m n).2 ∧ (finI m n).2 ≤ 2560000000 := by
  have h1 := low_bd h
  have h2 := mulnn h1.2 hn
  obtain ⟨g, -, -, -, k1, k2, k3, k4⟩ := low_spec h1.1.1 h2.2.1
  unfold finI
  omega
theorem finS_bd {m : Int × Int} {n : Int} (h : FrB m) (hn : 1 ≤ n ∧ n ≤ 16) : (0 ≤ (finS m n).1 ∧ (finS m n).1 ≤ 10000000000000000) ∧ 1 ≤ (finS m n).2 ∧ (finS m n).2 ≤ 2560000000 := by
  have h2 := mulnn h.2 hn
  obtain ⟨g, -, -, -, k1, k2, k3, k4⟩ := low_spec h.1.1 h2.2.1
  unfold finS
  omega
def lenD (n p q : Int) : Nat := (n + max p q).toNat

set_option maxHeartbeats 8000000 in
set_option maxRecDepth 20000 in
theorem i_leastDelayed (a b c d a' b' c' d' n p q : Int) (w : World) (hA : MvS a b c d n) (hB : MvS a' b' c' d' n) (hp : 0 ≤ p ∧ p ≤ 4) (hq : 0 ≤ q ∧ q ≤ 4) :
    Calls Try.prog 43 #[.agg #[.int .i64 a, .int .i64 b, .int .i64 c, .int .i64 d, .int .i64 n], .agg #[.int .i64 a', .int .i64 b', .int .i64 c', .int .i64 d', .int .i64 n], .int .i64 p, .int .i64 q] w fun e w' => e = .returned (.tuple #[.int .i64 (finI (minI (dX a c a' c' n p q) (dX b d b' d' n p q) (lenD n p q)) n).1, .int .i64 (finI (minI (dX a c a' c' n p q) (dX b d b' d' n p q) (lenD n p q)) n).2]) ∧ Gw w w' := by
  have hway := way_bd (p := p) (q := q) hA hB
  have hn := hA.2.2
  have T1 := fun u => i_placeAt a b c d n 0 u hA ⟨by omega, by omega⟩
  have T2 := fun u => i_placeAt a' b' c' d' n 0 u hB ⟨by omega, by omega⟩
  have T3 := fun k u hk => i_placeDelayed a b c d n p k u hA hp hk
  have T4 := fun k u hk => i_placeDelayed a' b' c' d' n q k u hB hq hk
  have X0 : atD a c n 0 - atD a' c' n 0 = dX a c a' c' n p q 0 := by unfold dX; rw [show tD n p ((0 : Nat) : Int) = 0 by unfold tD; omega, show tD n q ((0 : Nat) : Int) = 0 by unfold tD; omega]
  have Y0 : atD b d n 0 - atD b' d' n 0 = dX b d b' d' n p q 0 := by unfold dX; rw [show tD n p ((0 : Nat) : Int) = 0 by unfold tD; omega, show tD n q ((0 : Nat) : Int) = 0 by unfold tD; omega]
  have XS : ∀ k : Nat, dX a c a' c' n p q (k + 1) = atD a c n (tD n p ((k : Int) + 1)) - atD a' c' n (tD n q ((k : Int) + 1)) := fun k => by unfold dX; rw [show ((k + 1 : Nat) : Int) = (k : Int) + 1 by omega]
  have YS : ∀ k : Nat, dX b d b' d' n p q (k + 1) = atD b d n (tD n p ((k : Int) + 1)) - atD b' d' n (tD n q ((k : Int) + 1)) := fun k => by unfold dX; rw [show ((k + 1 : Nat) : Int) = (k : Int) + 1 by omega]
  have PB : ∀ t : Int, ((0 ≤ atD a c n (tD n p t) ∧ atD a c n (tD n p t) ≤ 20480) ∧ 0 ≤ atD b d n (tD n p t) ∧ atD b d n (tD n p t) ≤ 10752) ∧ (0 ≤ atD a' c' n (tD n q t) ∧ atD a' c' n (tD n q t) ≤ 20480) ∧ 0 ≤ atD b' d' n (tD n q t) ∧ atD b' d' n (tD n q t) ≤ 10752 := fun t =>
    ⟨⟨atD_bd (M := 1280) (by omega) hA.1.1 hA.2.1.1 hn.2 (tD_bd (by omega)), atD_bd (M := 672) (by omega) hA.1.2 hA.2.1.2 hn.2 (tD_bd (by omega))⟩, atD_bd (M := 1280) (by omega) hB.1.1 hB.2.1.1 hn.2 (tD_bd (by omega)), atD_bd (M := 672) (by omega) hB.1.2 hB.2.1.2 hn.2 (tD_bd (by omega))⟩
  have PB0 : ((0 ≤ atD a c n 0 ∧ atD a c n 0 ≤ 20480) ∧ 0 ≤ atD b d n 0 ∧ atD b d n 0 ≤ 10752) ∧ (0 ≤ atD a' c' n 0 ∧ atD a' c' n 0 ≤ 20480) ∧ 0 ≤ atD b' d' n 0 ∧ atD b' d' n 0 ≤ 10752 :=
    ⟨⟨atD_bd (M := 1280) (by omega) hA.1.1 hA.2.1.1 hn.2 (by omega), atD_bd (M := 672) (by omega) hA.1.2 hA.2.1.2 hn.2 (by omega)⟩, atD_bd (M := 1280) (by omega) hB.1.1 hB.2.1.1 hn.2 (by omega), atD_bd (M := 672) (by omega) hB.1.2 hB.2.1.2 hn.2 (by omega)⟩
  have hmin := minI_bd hway
  have hlen : ((lenD n p q : Nat) : Int) = n + max p q := by unfold lenD; omega
  have hlen' : lenD n p q ≤ 20 := by omega
  generalize dX a c a' c' n p q = X at *
  generalize dX b d b' d' n p q = Y at *
  generalize lenD n p q = N at *
  have hs0 := side_bd (hway 0).1.1 (hway 0).1.2
  have h00 := (hway 0).1
  generalize atD a c n 0 = x0 at *
  generalize atD a' c' n 0 = u0 at *
  generalize atD b d n 0 = y0 at *
  generalize atD b' d' n 0 = v0 at *
  rw [← X0, ← Y0] at hs0
  have T1 := Lib.hid T1
  have T2 := Lib.hid T2
  have T3 := Lib.hid T3
  have T4 := Lib.hid T4
  have XS := Lib.hid XS
  have YS := Lib.hid YS
  have PB := Lib.hid PB
  have HX0 := Lib.hid X0
  have HY0 := Lib.hid Y0
  have hway := Lib.hid hway
  have hmin := Lib.hid hmin
  have hm0 : Hid (minI X Y 0 = ((x0 - u0) * (x0 - u0) + (y0 - v0) * (y0 - v0), 1)) := by unfold Hid; rw [X0, Y0]; rfl
  clear X0 Y0 hA hB
  have B4 : BoxR ((w.alloc (.cells #[.int .i64 a, .int .i64 b, .int .i64 c, .int .i64 d, .int .i64 n] 72)).alloc (.cells #[.int .i64 a', .int .i64 b', .int .i64 c', .int .i64 d', .int .i64 n] 72)) w.heap.size #[.int .i64 a, .int .i64 b, .int .i64 c, .int .i64 d, .int .i64 n] 72 := (BoxR.new w _ _).gw ((Gw.refl _).alloc _)
  have B5 : BoxR ((w.alloc (.cells #[.int .i64 a, .int .i64 b, .int .i64 c, .int .i64 d, .int .i64 n] 72)).alloc (.cells #[.int .i64 a', .int .i64 b', .int .i64 c', .int .i64 d', .int .i64 n] 72)) (w.heap.size + 1) #[.int .i64 a', .int .i64 b', .int .i64 c', .int .i64 d', .int .i64 n] 72 := by
    have := BoxR.new (w.alloc (.cells #[.int .i64 a, .int .i64 b, .int .i64 c, .int .i64 d, .int .i64 n] 72)) #[.int .i64 a', .int .i64 b', .int .i64 c', .int .i64 d', .int .i64 n] 72
    simpa only [World.size_alloc] using this
  have G0 : Gw w ((w.alloc (.cells #[.int .i64 a, .int .i64 b, .int .i64 c, .int .i64 d, .int .i64 n] 72)).alloc (.cells #[.int .i64 a', .int .i64 b', .int .i64 c', .int .i64 d', .int .i64 n] 72)) := ((Gw.refl w).alloc _).alloc _
  have B4 := Lib.hid B4
  have B5 := Lib.hid B5
  have G0 := Lib.hid G0

  by_cases hpq : p < q
  all_goals
    go_enter Try.func43, Try.ntmps43
    go_wp2_with fail
    refine (T1.out _).mono ?_
    rintro _ w1 ⟨rfl, hb1⟩
    have z0 := (B5.out.gw hb1).cell 0 rfl
    have z1 := (B5.out.gw hb1).cell 1 rfl
    have z2 := (B5.out.gw hb1).cell 2 rfl
    have z3 := (B5.out.gw hb1).cell 3 rfl
    have z4 := (B5.out.gw hb1).cell 4 rfl

    dsimp only
    go_wp2_with fail
    refine (T2.out _).mono ?_
    rintro _ w2 ⟨rfl, hb2⟩
    clear z0 z1 z2 z3 z4

    have g2 := Lib.hid (hb1.trans hb2)
    dsimp only
    go_wp2_with fail
    go_loopw [10, 11, 12, 13, 14, 15, 16, 17, 18, 19, 20, 21, 22, 23, 24, 25] (fun _ _ _ _ dx dy tp bl ct _ _ _ _ _ _ _ wr => ∃ k : Nat, dx = .int .i64 (X k) ∧ dy = .int .i64 (Y k) ∧ tp = .int .i64 (minI X Y k).1 ∧ bl = .int .i64 (minI X Y k).2 ∧ ct = .int .i64 ((k : Int) + 1) ∧ k ≤ N ∧ Gw ((w.alloc (.cells #[.int .i64 a, .int .i64 b, .int .i64 c, .int .i64 d, .int .i64 n] 72)).alloc (.cells #[.int .i64 a', .int .i64 b', .int .i64 c', .int .i64 d', .int .i64 n] 72)) wr) (fun _ _ _ _ _ _ _ _ ct _ _ _ _ _ _ _ _ => N + 1 - (intOf ct).toNat)
    case atStart => exact ⟨0, by rw [HX0.out], by rw [HY0.out], by rw [hm0.out], by rw [hm0.out], by go_num, Nat.zero_le _, g2.out⟩
    case round =>
      obtain ⟨k, rfl, rfl, rfl, rfl, rfl, hk, hg⟩ := hrel
      have Hk := Lib.hid hk
      have hmk := hmin.out k
      have hzb := B4.out.lt
      have c4 := (B4.out.gw hg).cell 4 rfl
      clear HX0 HY0 hm0 T1 T2 g2 hs0 h00 PB0
      by_cases hlt : k < N
      · have hltz : (k : Int) + 1 ≤ n + max p q := by omega
        have wk : IntKind.i64.wrap ((k : Int) + 1) = (k : Int) + 1 := IntWalk.i64_in _ (by omega)
        have wk2 : IntKind.i64.wrap ((k : Int) + 1 + 1) = ((k + 1 : Nat) : Int) + 1 := by rw [IntWalk.i64_in _ (by omega)]; omega
        have T3 := Lib.hid (fun u => T3.out ((k : Int) + 1) u ⟨by omega, by omega⟩)
        have T4 := Lib.hid (fun u => T4.out ((k : Int) + 1) u ⟨by omega, by omega⟩)
        have Hx1 : Hid (X (k + 1) = _) := XS.out k
        have Hy1 : Hid (Y (k + 1) = _) := YS.out k
        have hpb := PB.out ((k : Int) + 1)
        have hw1 := hway.out k
        have hw2 := (hway.out (k + 1)).1
        have hstep : minI X Y (k + 1) = if lessQ (segI (X k) (Y k) (X (k + 1)) (Y (k + 1))) (minI X Y k) then segI (X k) (Y k) (X (k + 1)) (Y (k + 1)) else minI X Y k := rfl
        rw [Hx1.out, Hy1.out] at hw1 hw2 hstep
        generalize atD a c n (tD n p ((k : Int) + 1)) = x1 at *
        generalize atD a' c' n (tD n q ((k : Int) + 1)) = u1 at *
        generalize atD b d n (tD n p ((k : Int) + 1)) = y1 at *
        generalize atD b' d' n (tD n q ((k : Int) + 1)) = v1 at *
        obtain ⟨mm, hmm⟩ : ∃ x, minI X Y (k + 1) = x := ⟨_, rfl⟩
        rw [hmm] at hstep
        have Hmm := Lib.hid hmm
        clear hmm
        generalize minI X Y k = m at *
        generalize X k = dx at *
        generalize Y k = dy at *
        obtain ⟨m1, m2⟩ := m
        have hmk : FrB (m1, m2) := hmk
        have hmk : (0 ≤ m1 ∧ m1 ≤ 10000000000000000) ∧ 1 ≤ m2 ∧ m2 ≤ 10000000 := hmk
        have hpt := part_bd hw1.1.1 hw1.1.2 hw1.2.1 hw1.2.2
        have hsd := side_bd hw2.1 hw2.2
        have hsb := segI_bd hw1.1.1 hw1.1.2 hw2.1 hw2.2 hw1.2.1 hw1.2.2
        have z0 := (B4.out.gw hg).cell 0 rfl
        have z1 := (B4.out.gw hg).cell 1 rfl
        have z2 := (B4.out.gw hg).cell 2 rfl
        have z3 := (B4.out.gw hg).cell 3 rfl
        have z4 := (B4.out.gw hg).cell 4 rfl

        have hstep := Lib.hid hstep
        by_cases g1 : dx * (x1 - u1 - dx) + dy * (y1 - v1 - dy) < 0
        · by_cases g2 : -(dx * (x1 - u1 - dx) + dy * (y1 - v1 - dy)) < (x1 - u1 - dx) * (x1 - u1 - dx) + (y1 - v1 - dy) * (y1 - v1 - dy)
          · have hseg : segI dx dy (x1 - u1) (y1 - v1) = ((dx * (y1 - v1 - dy) - dy * (x1 - u1 - dx)) * (dx * (y1 - v1 - dy) - dy * (x1 - u1 - dx)), (x1 - u1 - dx) * (x1 - u1 - dx) + (y1 - v1 - dy) * (y1 - v1 - dy)) := if_pos ⟨g1, g2⟩
            have HS := Lib.hid hseg
            rw [hseg] at hsb
            have hst := hstep.out
            rw [hseg] at hst
            have Hyes := Lib.hid (fun g => hst.trans (if_pos g))
            have Hno := Lib.hid (fun g => hst.trans (if_neg g))
            clear hst
            clear hseg
            dsimp only at hsb
            go_wp2_with fail
            refine (T3.out _).mono ?_
            rintro _ w3 ⟨rfl, hb3⟩
            clear z0 z1 z2 z3 z4
            have z0 := (B5.out.gw (hg.trans hb3)).cell 0 rfl
            have z1 := (B5.out.gw (hg.trans hb3)).cell 1 rfl
            have z2 := (B5.out.gw (hg.trans hb3)).cell 2 rfl
            have z3 := (B5.out.gw (hg.trans hb3)).cell 3 rfl
            have z4 := (B5.out.gw (hg.trans hb3)).cell 4 rfl
            dsimp only
            go_wp2_with fail
            refine (T4.out _).mono ?_
            rintro _ w4 ⟨rfl, hb4⟩
            clear z0 z1 z2 z3 z4
            dsimp only
            go_wp2_with fail
            refine (i_lessFraction _ _ _ _ _ ⟨by omega, by omega⟩ ⟨by omega, by omega⟩ ⟨by omega, by omega⟩ ⟨by omega, by omega⟩).mono ?_
            rintro _ w6 (⟨hl, rfl, rfl⟩ | ⟨hl, rfl, rfl⟩)
            · have hm := Lib.hid (Hyes.out hl)
              clear hl
              dsimp only
              go_wp2_with fail
              go_roundw
              case rel => exact ⟨k + 1, by rw [Hx1.out], by rw [Hy1.out], by rw [Hmm.out, hm.out], by rw [Hmm.out, hm.out], by go_num, by omega, hg.trans (hb3.trans hb4)⟩
              case measure => simp [intOf]; omega
            · have hm := Lib.hid (Hno.out hl)
              clear hl
              dsimp only
              go_wp2_with fail
              go_roundw
              case rel => exact ⟨k + 1, by rw [Hx1.out], by rw [Hy1.out], by rw [Hmm.out, hm.out], by rw [Hmm.out, hm.out], by go_num, by omega, hg.trans (hb3.trans hb4)⟩
              case measure => simp [intOf]; omega

          · have hseg : segI dx dy (x1 - u1) (y1 - v1) = ((x1 - u1) * (x1 - u1) + (y1 - v1) * (y1 - v1), 1) := if_neg (fun g => g2 g.2)
            have HS := Lib.hid hseg
            rw [hseg] at hsb
            have hst := hstep.out
            rw [hseg] at hst
            have Hyes := Lib.hid (fun g => hst.trans (if_pos g))
            have Hno := Lib.hid (fun g => hst.trans (if_neg g))
            clear hst
            clear hseg
            dsimp only at hsb
            go_wp2_with fail
            refine (T3.out _).mono ?_
            rintro _ w3 ⟨rfl, hb3⟩
            clear z0 z1 z2 z3 z4
            have z0 := (B5.out.gw (hg.trans hb3)).cell 0 rfl
            have z1 := (B5.out.gw (hg.trans hb3)).cell 1 rfl
            have z2 := (B5.out.gw (hg.trans hb3)).cell 2 rfl
            have z3 := (B5.out.gw (hg.trans hb3)).cell 3 rfl
            have z4 := (B5.out.gw (hg.trans hb3)).cell 4 rfl
            dsimp only
            go_wp2_with fail
            refine (T4.out _).mono ?_
            rintro _ w4 ⟨rfl, hb4⟩
            clear z0 z1 z2 z3 z4
            dsimp only
            go_wp2_with fail
            refine (i_lessFraction _ _ _ _ _ ⟨by omega, by omega⟩ ⟨by omega, by omega⟩ ⟨by omega, by omega⟩ ⟨by omega, by omega⟩).mono ?_
            rintro _ w6 (⟨hl, rfl, rfl⟩ | ⟨hl, rfl, rfl⟩)
            · have hm := Lib.hid (Hyes.out hl)
              clear hl
              dsimp only
              go_wp2_with fail
              go_roundw
              case rel => exact ⟨k + 1, by rw [Hx1.out], by rw [Hy1.out], by rw [Hmm.out, hm.out], by rw [Hmm.out, hm.out], by go_num, by omega, hg.trans (hb3.trans hb4)⟩
              case measure => simp [intOf]; omega
            · have hm := Lib.hid (Hno.out hl)
              clear hl
              dsimp only
              go_wp2_with fail
              go_roundw
              case rel => exact ⟨k + 1, by rw [Hx1.out], by rw [Hy1.out], by rw [Hmm.out, hm.out], by rw [Hmm.out, hm.out], by go_num, by omega, hg.trans (hb3.trans hb4)⟩
              case measure => simp [intOf]; omega

        · have hseg : segI dx dy (x1 - u1) (y1 - v1) = ((x1 - u1) * (x1 - u1) + (y1 - v1) * (y1 - v1), 1) := if_neg (fun g => g1 g.1)
          have HS := Lib.hid hseg
          rw [hseg] at hsb
          have hst := hstep.out
          rw [hseg] at hst
          have Hyes := Lib.hid (fun g => hst.trans (if_pos g))
          have Hno := Lib.hid (fun g => hst.trans (if_neg g))
          clear hst
          clear hseg
          dsimp only at hsb
          go_wp2_with fail
          refine (T3.out _).mono ?_
          rintro _ w3 ⟨rfl, hb3⟩
          clear z0 z1 z2 z3 z4
          have z0 := (B5.out.gw (hg.trans hb3)).cell 0 rfl
          have z1 := (B5.out.gw (hg.trans hb3)).cell 1 rfl
          have z2 := (B5.out.gw (hg.trans hb3)).cell 2 rfl
          have z3 := (B5.out.gw (hg.trans hb3)).cell 3 rfl
          have z4 := (B5.out.gw (hg.trans hb3)).cell 4 rfl
          dsimp only
          go_wp2_with fail
          refine (T4.out _).mono ?_
          rintro _ w4 ⟨rfl, hb4⟩
          clear z0 z1 z2 z3 z4
          dsimp only
          go_wp2_with fail
          refine (i_lessFraction _ _ _ _ _ ⟨by omega, by omega⟩ ⟨by omega, by omega⟩ ⟨by omega, by omega⟩ ⟨by omega, by omega⟩).mono ?_
          rintro _ w6 (⟨hl, rfl, rfl⟩ | ⟨hl, rfl, rfl⟩)
          · have hm := Lib.hid (Hyes.out hl)
            clear hl
            dsimp only
            go_wp2_with fail
            go_roundw
            case rel => exact ⟨k + 1, by rw [Hx1.out], by rw [Hy1.out], by rw [Hmm.out, hm.out], by rw [Hmm.out, hm.out], by go_num, by omega, hg.trans (hb3.trans hb4)⟩
            case measure => simp [intOf]; omega
          · have hm := Lib.hid (Hno.out hl)
            clear hl
            dsimp only
            go_wp2_with fail
            go_roundw
            case rel => exact ⟨k + 1, by rw [Hx1.out], by rw [Hy1.out], by rw [Hmm.out, hm.out], by rw [Hmm.out, hm.out], by go_num, by omega, hg.trans (hb3.trans hb4)⟩
            case measure => simp [intOf]; omega

      · obtain rfl : k = N := by omega
        have hltz : ¬(k : Int) + 1 ≤ n + max p q := by omega
        have hlow := low_bd hmk
        have hmn := mulnn hlow.2 hn
        have hfin : finI (minI X Y k) n = low (low (minI X Y k).1 (minI X Y k).2).1 ((low (minI X Y k).1 (minI X Y k).2).2 * n * n) := rfl
        have HF := Lib.hid hfin
        have T5 := fun u => i_lowestTerms (minI X Y k).1 (minI X Y k).2 u hmk.1.1 hmk.1.2 hmk.2.1 (by omega)
        have T6 := fun u => i_lowestTerms (low (minI X Y k).1 (minI X Y k).2).1 ((low (minI X Y k).1 (minI X Y k).2).2 * n * n) u hlow.1.1 hlow.1.2 hmn.2.1 (by omega)
        rw [← hfin] at T6
        obtain ⟨fin, hfin2⟩ : ∃ x, finI (minI X Y k) n = x := ⟨_, rfl⟩
        rw [hfin2] at T6
        have Hfin := Lib.hid hfin2
        obtain ⟨m, hmm⟩ : ∃ x, minI X Y k = x := ⟨_, rfl⟩
        rw [hmm] at T5 T6 hlow hmn hmk ⊢
        clear hmm hfin hfin2 HF
        obtain ⟨m1, m2⟩ := m
        dsimp only at T5 T6 hlow hmn hmk ⊢
        generalize low m1 m2 = l at *
        obtain ⟨l1, l2⟩ := l
        dsimp only at T5 T6 hlow hmn
        have T5 := Lib.hid T5
        have T6 := Lib.hid T6
        go_wp2_with fail
        refine (T5.out _).mono ?_
        rintro _ w7 ⟨rfl, hb7⟩
        have c4 := (B4.out.gw (hg.trans hb7)).cell 4 rfl
        dsimp only
        go_wp2_with fail
        refine (T6.out _).mono ?_
        rintro _ w8 ⟨rfl, hb8⟩
        dsimp only
        go_wp2_with fail
        go_ret2
        exact ⟨ret_ii Hfin.out, G0.out.trans (hg.trans (hb7.trans hb8))⟩
end Go.Proofs.Ytphfaeefjcdjjaa
