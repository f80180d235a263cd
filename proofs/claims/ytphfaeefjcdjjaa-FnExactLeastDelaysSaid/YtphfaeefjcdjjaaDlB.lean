/-
  Places with delays, and which of two fractions is less.
-/
import Derived.Test.YtphfaeefjcdjjaaDlA
import Derived.Test.YtphfaeefjcdjjaaNumD
import Derived.Test.YtphfaeefjcdjjaaShelf
namespace Go.Proofs.Ytphfaeefjcdjjaa
open Go.RowKit
set_option linter.unusedVariables false

abbrev MvS (a b c d n : Int) : Prop := SpotP a b ∧ SpotP c d ∧ 1 ≤ n ∧ n ≤ 16
theorem pm {a b A B : Int} (h : -A ≤ a ∧ a ≤ A) (h' : -B ≤ b ∧ b ≤ B) : -(A * B) ≤ a * b ∧ a * b ≤ A * B := by
  have h1 := Int.mul_nonneg (show 0 ≤ A + a by omega) (show 0 ≤ B + b by omega)
  have h2 := Int.mul_nonneg (show 0 ≤ A - a by omega) (show 0 ≤ B - b by omega)
  have h3 := Int.mul_nonneg (show 0 ≤ A + a by omega) (show 0 ≤ B - b by omega)
  have h4 := Int.mul_nonneg (show 0 ≤ A - a by omega) (show 0 ≤ B + b by omega)
  have e1 : (A + a) * (B + b) = A * B + A * b + a * B + a * b := by grind
  have e2 : (A - a) * (B - b) = A * B - A * b - a * B + a * b := by grind
  have e3 : (A + a) * (B - b) = A * B - A * b + a * B - a * b := by grind
  have e4 : (A - a) * (B + b) = A * B + A * b - a * B - a * b := by grind
  omega
theorem atD_bd {x y n t M : Int} (hM : 0 ≤ M) (hx : 0 ≤ x ∧ x ≤ M) (hy : 0 ≤ y ∧ y ≤ M) (hn : n ≤ 16) (ht : 0 ≤ t ∧ t ≤ n) : 0 ≤ atD x y n t ∧ atD x y n t ≤ M * 16 := by
  have e : atD x y n t = x * (n - t) + y * t := by unfold atD; grind
  have h1 := Int.mul_nonneg hx.1 (show 0 ≤ n - t by omega)
  have h2 := Int.mul_nonneg hy.1 ht.1
  have h3 := Int.mul_le_mul_of_nonneg_right hx.2 (show 0 ≤ n - t by omega)
  have h4 := Int.mul_le_mul_of_nonneg_right hy.2 ht.1
  have h5 := Int.mul_le_mul_of_nonneg_left hn hM
  have e2 : M * (n - t) + M * t = M * n := by grind
  omega
theorem tD_bd {n d c : Int} (hn : 0 ≤ n) : 0 ≤ tD n d c ∧ tD n d c ≤ n := by unfold tD; omega
theorem tD_step (n d c : Int) (hn : 0 ≤ n) : 0 ≤ tD n d (c + 1) - tD n d c ∧ tD n d (c + 1) - tD n d c ≤ 1 := by unfold tD; omega
theorem atD_step {x y n t t' M : Int} (hx : 0 ≤ x ∧ x ≤ M) (hy : 0 ≤ y ∧ y ≤ M) (h : 0 ≤ t' - t ∧ t' - t ≤ 1) : -M ≤ atD x y n t' - atD x y n t ∧ atD x y n t' - atD x y n t ≤ M := by
  have e : atD x y n t' - atD x y n t = (t' - t) * (y - x) := by unfold atD; grind
  have := pm (A := 1) (B := M) (a := t' - t) (b := y - x) (by omega) (by omega)
  omega

theorem i_placeAt (a b c d n t : Int) (w : World) (h : MvS a b c d n) (ht : 0 ≤ t ∧ t ≤ n) :
    Calls Try.prog 50 #[.agg #[.int .i64 a, .int .i64 b, .int .i64 c, .int .i64 d, .int .i64 n], .int .i64 t] w fun e w' => e = .returned (.tuple #[.int .i64 (atD a c n t), .int .i64 (atD b d n t)]) ∧ Gw w w' := by
  obtain ⟨⟨⟨h1, h2⟩, h3, h4⟩, ⟨⟨h5, h6⟩, h7, h8⟩, h9, hn⟩ := h
  have m1 := pm (A := 1280) (B := 16) (a := a) (b := n) (by omega) (by omega)
  have m2 := pm (A := 672) (B := 16) (a := b) (b := n) (by omega) (by omega)
  have m3 := pm (A := 16) (B := 1280) (a := t) (b := c - a) (by omega) (by omega)
  have m4 := pm (A := 16) (B := 672) (a := t) (b := d - b) (by omega) (by omega)
  go_enter Try.func50, Try.ntmps50
  go_wp2_with ((with_reducible refine wp_region_gw (by kernel_rfl) (by kernel_rfl) ?_); have hcq := @GwOf.cell; (repeat (go_big_quiet_step (fail))); refine wpQuiet_nil ?_; clear hcq; rintro w' ⟨⟨w', hb⟩, rfl⟩; (try dsimp only); have hc := hb.cells; have hf := hb.frozens; have hz := hb.size; (try simp at hz); (try have hz0 : w.heap.size < w'.heap.size := (by omega)); (try have hz1 : w.heap.size + 1 < w'.heap.size := (by omega)); (try have hz2 : w.heap.size + 2 < w'.heap.size := (by omega)); (try have hz3 : w.heap.size + 3 < w'.heap.size := (by omega)); (try have hz4 : w.heap.size + 4 < w'.heap.size := (by omega)); (try have hz5 : w.heap.size + 5 < w'.heap.size := (by omega)))
  go_ret2
  exact ⟨rfl, by (repeat (first | with_reducible exact Gw.refl _ | with_reducible assumption | ((with_reducible refine Gw.set ?_ ?_ _); rotate_left; (focus (first | (simp; done) | (simp; omega) | omega))) | with_reducible refine Gw.alloc ?_ _ | with_reducible refine Gw.drew ?_ | with_reducible refine Gw.drewN ?_ _ | (refine Gw.trans ?_ (by with_reducible assumption))))⟩

theorem s_mvAt (a b c d n t : Int) (w : World) (h : MvS a b c d n) (ht : 0 ≤ t ∧ t ≤ n) :
    Calls Try.prog 64 #[.agg #[.int .i64 a, .int .i64 b, .int .i64 c, .int .i64 d, .int .i64 n], .int .i64 t] w fun e w' => e = .returned (.tuple #[.int .i64 (atD a c n t), .int .i64 (atD b d n t)]) ∧ Gw w w' := by
  obtain ⟨⟨⟨h1, h2⟩, h3, h4⟩, ⟨⟨h5, h6⟩, h7, h8⟩, h9, hn⟩ := h
  have m1 := pm (A := 1280) (B := 16) (a := a) (b := n) (by omega) (by omega)
  have m2 := pm (A := 672) (B := 16) (a := b) (b := n) (by omega) (by omega)
  have m3 := pm (B := 16) (A := 1280) (b := t) (a := c - a) (by omega) (by omega)
  have m4 := pm (B := 16) (A := 672) (b := t) (a := d - b) (by omega) (by omega)
  go_enter Try.func64, Try.ntmps64
  go_wp2_with ((with_reducible refine wp_region_gw (by kernel_rfl) (by kernel_rfl) ?_); have hcq := @GwOf.cell; (repeat (go_big_quiet_step (fail))); refine wpQuiet_nil ?_; clear hcq; rintro w' ⟨⟨w', hb⟩, rfl⟩; (try dsimp only); have hc := hb.cells; have hf := hb.frozens; have hz := hb.size; (try simp at hz); (try have hz0 : w.heap.size < w'.heap.size := (by omega)); (try have hz1 : w.heap.size + 1 < w'.heap.size := (by omega)); (try have hz2 : w.heap.size + 2 < w'.heap.size := (by omega)); (try have hz3 : w.heap.size + 3 < w'.heap.size := (by omega)); (try have hz4 : w.heap.size + 4 < w'.heap.size := (by omega)); (try have hz5 : w.heap.size + 5 < w'.heap.size := (by omega)))
  go_ret2
  exact ⟨ret_ii (f := (atD a c n t, atD b d n t)) (by unfold atD; rw [Int.mul_comm t, Int.mul_comm t]), by (repeat (first | with_reducible exact Gw.refl _ | with_reducible assumption | ((with_reducible refine Gw.set ?_ ?_ _); rotate_left; (focus (first | (simp; done) | (simp; omega) | omega))) | with_reducible refine Gw.alloc ?_ _ | with_reducible refine Gw.drew ?_ | with_reducible refine Gw.drewN ?_ _ | (refine Gw.trans ?_ (by with_reducible assumption))))⟩

theorem i_placeDelayed (a b c d n p k : Int) (w : World) (h : MvS a b c d n) (hp : 0 ≤ p ∧ p ≤ 4) (hk : 0 ≤ k ∧ k ≤ 100) :
    Calls Try.prog 51 #[.agg #[.int .i64 a, .int .i64 b, .int .i64 c, .int .i64 d, .int .i64 n], .int .i64 p, .int .i64 k] w fun e w' => e = .returned (.tuple #[.int .i64 (atD a c n (tD n p k)), .int .i64 (atD b d n (tD n p k))]) ∧ Gw w w' := by
  have T : ∀ u t, t = tD n p k → Calls Try.prog 50 #[.agg #[.int .i64 a, .int .i64 b, .int .i64 c, .int .i64 d, .int .i64 n], .int .i64 t] u fun e w' => e = .returned (.tuple #[.int .i64 (atD a c n (tD n p k)), .int .i64 (atD b d n (tD n p k))]) ∧ Gw u w' := fun u t ht => by
    rw [ht]
    exact i_placeAt a b c d n (tD n p k) u h (tD_bd (by have := h.2.2.1; omega))
  have T := Lib.hid T
  have hn := h.2.2
  clear h
  go_enter Try.func51, Try.ntmps51
  go_wp2_with (go_at_call 50; refine (T.out _ _ (by unfold tD; omega)).mono ?_; rintro _ w2 ⟨rfl, hb⟩)
  all_goals
    go_ret2
    exact ⟨rfl, by (repeat (first | with_reducible exact Gw.refl _ | with_reducible assumption | ((with_reducible refine Gw.set ?_ ?_ _); rotate_left; (focus (first | (simp; done) | (simp; omega) | omega))) | with_reducible refine Gw.alloc ?_ _ | with_reducible refine Gw.drew ?_ | with_reducible refine Gw.drewN ?_ _ | (refine Gw.trans ?_ (by with_reducible assumption))))⟩

theorem s_rpAt (a b c d n p k : Int) (w : World) (h : MvS a b c d n) (hp : 0 ≤ p ∧ p ≤ 4) (hk : 0 ≤ k ∧ k ≤ 100) :
    Calls Try.prog 60 #[.agg #[.int .i64 a, .int .i64 b, .int .i64 c, .int .i64 d, .int .i64 n], .int .i64 p, .int .i64 k] w fun e w' => e = .returned (.tuple #[.int .i64 (atD a c n (tD n p k)), .int .i64 (atD b d n (tD n p k))]) ∧ Gw w w' := by
  have e : tD n p k = max 0 (min n (k - p)) := by have := h.2.2; unfold tD; omega
  have T := fun u => s_mvAt a b c d n (tD n p k) u h (tD_bd (by have := h.2.2.1; omega))
  rw [e] at T ⊢
  have T := Lib.hid T
  have hn := h.2.2
  clear h
  go_enter Try.func60, Try.ntmps60
  go_wp2_with ((with_reducible refine wp_region_gw (by kernel_rfl) (by kernel_rfl) ?_); have hcq := @GwOf.cell; (repeat (go_big_quiet_step ((first | (go_at_call 38; exact GwOf.callq (s_l1Least _ _ _)) | (go_at_call 59; exact GwOf.callq (s_l1Most _ _ _)) | (go_at_call 64; exact GwOf.call (T.out _)))))); refine wpQuiet_nil ?_; clear hcq; rintro w' ⟨⟨w', hb⟩, rfl⟩; (try dsimp only); have hc := hb.cells; have hf := hb.frozens; have hz := hb.size; (try simp at hz); (try have hz0 : w.heap.size < w'.heap.size := (by omega)); (try have hz1 : w.heap.size + 1 < w'.heap.size := (by omega)); (try have hz2 : w.heap.size + 2 < w'.heap.size := (by omega)); (try have hz3 : w.heap.size + 3 < w'.heap.size := (by omega)); (try have hz4 : w.heap.size + 4 < w'.heap.size := (by omega)); (try have hz5 : w.heap.size + 5 < w'.heap.size := (by omega)))
  go_ret2
  exact ⟨rfl, by (repeat (first | with_reducible exact Gw.refl _ | with_reducible assumption | ((with_reducible refine Gw.set ?_ ?_ _); rotate_left; (focus (first | (simp; done) | (simp; omega) | omega))) | with_reducible refine Gw.alloc ?_ _ | with_reducible refine Gw.drew ?_ | with_reducible refine Gw.drewN ?_ _ | (refine Gw.trans ?_ (by with_reducible assumption))))⟩

theorem mul_hi_lo (M N : Nat) : M < N ↔ M / 18446744073709551616 < N / 18446744073709551616 ∨ (M / 18446744073709551616 = N / 18446744073709551616 ∧ M % 18446744073709551616 < N % 18446744073709551616) := by omega

set_option maxHeartbeats 2000000 in
theorem i_lessFraction (a b c d : Int) (w : World) (ha : 0 ≤ a ∧ a ≤ 9000000000000000000) (hb : 0 ≤ b ∧ b ≤ 9000000000000000000) (hc : 0 ≤ c ∧ c ≤ 9000000000000000000) (hd : 0 ≤ d ∧ d ≤ 9000000000000000000) :
    Calls Try.prog 52 #[.int .i64 a, .int .i64 b, .int .i64 c, .int .i64 d] w (TellsQ (lessQ (a, b) (c, d)) w) := by
  obtain ⟨m, rfl⟩ := Int.eq_ofNat_of_zero_le ha.1
  obtain ⟨n, rfl⟩ := Int.eq_ofNat_of_zero_le hb.1
  obtain ⟨p, rfl⟩ := Int.eq_ofNat_of_zero_le hc.1
  obtain ⟨q, rfl⟩ := Int.eq_ofNat_of_zero_le hd.1
  have w1 : IntKind.u64.wrap (m : Int) = m := by rw [IntKind.wrap_u64]; omega
  have w2 : IntKind.u64.wrap (n : Int) = n := by rw [IntKind.wrap_u64]; omega
  have w3 : IntKind.u64.wrap (p : Int) = p := by rw [IntKind.wrap_u64]; omega
  have w4 : IntKind.u64.wrap (q : Int) = q := by rw [IntKind.wrap_u64]; omega
  have T1 := fun u => Try.bits_Mul64 m q (by omega) (by omega) u
  have T2 := fun u => Try.bits_Mul64 p n (by omega) (by omega) u
  have hl := mul_hi_lo (m * q) (p * n)
  have hq : lessQ ((m : Int), (n : Int)) ((p : Int), (q : Int)) ↔ m * q < p * n := by
    unfold lessQ
    dsimp only
    rw [← Int.natCast_mul, ← Int.natCast_mul]
    omega
  have T1 := Lib.hid T1
  have T2 := Lib.hid T2
  obtain ⟨A, hA⟩ : ∃ A : Int, ((m * q / 18446744073709551616 : Nat) : Int) = A := ⟨_, rfl⟩
  obtain ⟨B, hB⟩ : ∃ A : Int, ((m * q % 18446744073709551616 : Nat) : Int) = A := ⟨_, rfl⟩
  obtain ⟨C, hC⟩ : ∃ A : Int, ((p * n / 18446744073709551616 : Nat) : Int) = A := ⟨_, rfl⟩
  obtain ⟨D, hD⟩ : ∃ A : Int, ((p * n % 18446744073709551616 : Nat) : Int) = A := ⟨_, rfl⟩
  have hq2 : lessQ ((m : Int), (n : Int)) ((p : Int), (q : Int)) ↔ A < C ∨ (A = C ∧ B < D) := by
    rw [hq, hl]
    omega
  have T1 : Hid (∀ u, Calls Try.prog 57 #[.int .u64 m, .int .u64 q] u fun e w' => e = .returned (.tuple #[.int .u64 A, .int .u64 B]) ∧ w' = u) := by rw [← hA, ← hB]; exact T1
  have T2 : Hid (∀ u, Calls Try.prog 57 #[.int .u64 p, .int .u64 n] u fun e w' => e = .returned (.tuple #[.int .u64 C, .int .u64 D]) ∧ w' = u) := by rw [← hC, ← hD]; exact T2
  have Hq := Lib.hid hq2
  clear hA hB hC hD hq hl hq2 ha hb hc hd
  by_cases h1 : A < C
  · go_enter Try.func52, Try.ntmps52
    go_wp2_with fail
    refine (T1.out _).mono ?_
    rintro _ w2 ⟨rfl, rfl⟩
    dsimp only
    go_wp2_with fail
    refine (T2.out _).mono ?_
    rintro _ w2 ⟨rfl, rfl⟩
    dsimp only
    go_wp2_with fail
    go_ret
    exact .inl ⟨Hq.out.2 (.inl h1), rfl, rfl⟩
  by_cases h2 : A = C
  · subst h2
    have e1 : (A == A) = true := by simp
    by_cases h3 : B < D
    · go_enter Try.func52, Try.ntmps52
      go_wp2_with fail
      refine (T1.out _).mono ?_
      rintro _ w2 ⟨rfl, rfl⟩
      dsimp only
      go_wp2_with fail
      refine (T2.out _).mono ?_
      rintro _ w2 ⟨rfl, rfl⟩
      dsimp only
      go_wp2_with fail
      go_ret
      exact tellsQ_of (by rw [Hq.out]; first | (simp; done) | (simp; omega) | (simp only [decide_eq_true_eq]; omega))
    · go_enter Try.func52, Try.ntmps52
      go_wp2_with fail
      refine (T1.out _).mono ?_
      rintro _ w2 ⟨rfl, rfl⟩
      dsimp only
      go_wp2_with fail
      refine (T2.out _).mono ?_
      rintro _ w2 ⟨rfl, rfl⟩
      dsimp only
      go_wp2_with fail
      go_ret
      exact tellsQ_of (by rw [Hq.out]; first | (simp; done) | (simp; omega) | (simp only [decide_eq_true_eq]; omega))
  · have e1 : (A == C) = false := by simp [h2]
    go_enter Try.func52, Try.ntmps52
    go_wp2_with fail
    refine (T1.out _).mono ?_
    rintro _ w2 ⟨rfl, rfl⟩
    dsimp only
    go_wp2_with fail
    refine (T2.out _).mono ?_
    rintro _ w2 ⟨rfl, rfl⟩
    dsimp only
    go_wp2_with fail
    go_ret
    exact tellsQ_of (by rw [Hq.out]; first | (simp; done) | (simp; omega) | (simp only [decide_eq_true_eq]; omega))

theorem quo_less {a b c d : Int} (hb : 1 ≤ b) (hd : 1 ≤ d) : (a / b ≠ c / d → (a * d < c * b ↔ a / b < c / d)) ∧ (a / b = c / d → (a * d < c * b ↔ a % b * d < c % d * b)) := by
  have e1 := Int.emod_add_mul_ediv a b
  have e2 := Int.emod_add_mul_ediv c d
  have h1 := Int.emod_nonneg a (show b ≠ 0 by omega)
  have h2 := Int.emod_lt_of_pos a (show 0 < b by omega)
  have h3 := Int.emod_nonneg c (show d ≠ 0 by omega)
  have h4 := Int.emod_lt_of_pos c (show 0 < d by omega)
  generalize a / b = x at *
  generalize c / d = y at *
  generalize a % b = r at *
  generalize c % d = s at *
  have f1 : a * d = r * d + b * d * x := by rw [← e1]; grind
  have f2 : c * b = s * b + b * d * y := by rw [← e2]; grind
  have hbd := Int.mul_pos (show 0 < b by omega) (show 0 < d by omega)
  have g1 := Int.mul_nonneg h1 (show 0 ≤ d by omega)
  have g2 := Int.mul_nonneg h3 (show 0 ≤ b by omega)
  have g3 := Int.mul_lt_mul_of_pos_right h2 (show 0 < d by omega)
  have g4 := Int.mul_lt_mul_of_pos_right h4 (show 0 < b by omega)
  have g5 : d * b = b * d := Int.mul_comm _ _
  rw [f1, f2]
  constructor
  · intro hne
    constructor
    · intro h
      refine Int.not_le.1 fun hle => ?_
      have : b * d * (y + 1) ≤ b * d * x := Int.mul_le_mul_of_nonneg_left (by omega) (by omega)
      have e : b * d * (y + 1) = b * d * y + b * d := by grind
      omega
    · intro h
      have : b * d * (x + 1) ≤ b * d * y := Int.mul_le_mul_of_nonneg_left (by omega) (by omega)
      have e : b * d * (x + 1) = b * d * x + b * d := by grind
      omega
  · rintro rfl
    omega

set_option maxHeartbeats 2000000 in
theorem s_apLess (a b c d : Int) (w : World) (ha : 0 ≤ a ∧ a ≤ 10000000000000000) (hb : 1 ≤ b ∧ b ≤ 10000000) (hc : 0 ≤ c ∧ c ≤ 10000000000000000) (hd : 1 ≤ d ∧ d ≤ 10000000) :
    Calls Try.prog 62 #[.int .i64 a, .int .i64 b, .int .i64 c, .int .i64 d] w (Tells (lessQ (a, b) (c, d)) w) := by
  obtain ⟨q1, q2⟩ := quo_less hb.1 hd.1
  have hq : lessQ (a, b) (c, d) ↔ a * d < c * b := Iff.rfl
  have h1 := Int.emod_nonneg a (show b ≠ 0 by omega)
  have h2 := Int.emod_lt_of_pos a (show 0 < b by omega)
  have h3 := Int.emod_nonneg c (show d ≠ 0 by omega)
  have h4 := Int.emod_lt_of_pos c (show 0 < d by omega)
  have m1 := pm (A := 10000000) (B := 10000000) (a := a % b) (b := d) (by omega) (by omega)
  have m2 := pm (A := 10000000) (B := 10000000) (a := c % d) (b := b) (by omega) (by omega)
  rw [← hq] at q1 q2
  have Q1 := Lib.hid q1
  have Q2 := Lib.hid q2
  clear q1 q2 hq
  by_cases he : a / b = c / d
  · have hl := Lib.hid (Q2.out he)
    go_enter Try.func62, Try.ntmps62
    go_wp2_with ((with_reducible refine wp_region_gw (by kernel_rfl) (by kernel_rfl) ?_); have hcq := @GwOf.cell; (repeat (go_big_quiet_step (fail))); refine wpQuiet_nil ?_; clear hcq; rintro w' ⟨⟨w', hb⟩, rfl⟩; (try dsimp only); have hc := hb.cells; have hf := hb.frozens; have hz := hb.size; (try simp at hz); (try have hz0 : w.heap.size < w'.heap.size := (by omega)); (try have hz1 : w.heap.size + 1 < w'.heap.size := (by omega)); (try have hz2 : w.heap.size + 2 < w'.heap.size := (by omega)); (try have hz3 : w.heap.size + 3 < w'.heap.size := (by omega)); (try have hz4 : w.heap.size + 4 < w'.heap.size := (by omega)); (try have hz5 : w.heap.size + 5 < w'.heap.size := (by omega)))
    go_ret
    exact tells_of (by rw [hl.out]; simp) (by (repeat (first | with_reducible exact Gw.refl _ | with_reducible assumption | ((with_reducible refine Gw.set ?_ ?_ _); rotate_left; (focus (first | (simp; done) | (simp; omega) | omega))) | with_reducible refine Gw.alloc ?_ _ | with_reducible refine Gw.drew ?_ | with_reducible refine Gw.drewN ?_ _ | (refine Gw.trans ?_ (by with_reducible assumption)))))
  · have hl := Lib.hid (Q1.out he)
    go_enter Try.func62, Try.ntmps62
    go_wp2_with ((with_reducible refine wp_region_gw (by kernel_rfl) (by kernel_rfl) ?_); have hcq := @GwOf.cell; (repeat (go_big_quiet_step (fail))); refine wpQuiet_nil ?_; clear hcq; rintro w' ⟨⟨w', hb⟩, rfl⟩; (try dsimp only); have hc := hb.cells; have hf := hb.frozens; have hz := hb.size; (try simp at hz); (try have hz0 : w.heap.size < w'.heap.size := (by omega)); (try have hz1 : w.heap.size + 1 < w'.heap.size := (by omega)); (try have hz2 : w.heap.size + 2 < w'.heap.size := (by omega)); (try have hz3 : w.heap.size + 3 < w'.heap.size := (by omega)); (try have hz4 : w.heap.size + 4 < w'.heap.size := (by omega)); (try have hz5 : w.heap.size + 5 < w'.heap.size := (by omega)))
    go_ret
    exact tells_of (by rw [hl.out]; simp) (by (repeat (first | with_reducible exact Gw.refl _ | with_reducible assumption | ((with_reducible refine Gw.set ?_ ?_ _); rotate_left; (focus (first | (simp; done) | (simp; omega) | omega))) | with_reducible refine Gw.alloc ?_ _ | with_reducible refine Gw.drew ?_ | with_reducible refine Gw.drewN ?_ _ | (refine Gw.trans ?_ (by with_reducible assumption)))))
end Go.Proofs.Ytphfaeefjcdjjaa
