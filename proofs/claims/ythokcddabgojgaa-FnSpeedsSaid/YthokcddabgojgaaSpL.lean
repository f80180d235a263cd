/-
  Plain facts of the law of speeds, and its tests.
-/
import Derived.Test.YthokcddabgojgaaSpK
import Derived.BigRegion
namespace Go.Proofs.Ythokcddabgojgaa
open Go.RowKit Go.ChangeShapes Go.WideShapes
set_option linter.unusedVariables false

/-- A fraction in lowest terms times what was taken out. -/
theorem low_spec {X Y : Int} (hX : 0 ≤ X) (hY : 1 ≤ Y) : ∃ g : Int, 1 ≤ g ∧ X = (low X Y).1 * g ∧ Y = (low X Y).2 * g ∧ 0 ≤ (low X Y).1 ∧ 1 ≤ (low X Y).2 ∧ (low X Y).1 ≤ X ∧ (low X Y).2 ≤ Y := by
  have hg : 0 < Int.gcd X Y := Int.gcd_pos_of_ne_zero_right _ (by omega)
  have h1 : (Int.gcd X Y : Int) ∣ X := Int.gcd_dvd_left ..
  have h2 : (Int.gcd X Y : Int) ∣ Y := Int.gcd_dvd_right ..
  have hgi : (1 : Int) ≤ (Int.gcd X Y : Int) := by omega
  generalize hgd : (Int.gcd X Y : Int) = g at *
  have e1 : X / g * g = X := Int.ediv_mul_cancel h1
  have e2 : Y / g * g = Y := Int.ediv_mul_cancel h2
  have n1 : 0 ≤ X / g := Int.ediv_nonneg hX (by omega)
  have n2 : 0 ≤ Y / g := Int.ediv_nonneg (by omega) (by omega)
  have n3 : 1 ≤ Y / g := by
    rcases Int.lt_or_le (Y / g) 1 with h | h
    · have : Y / g = 0 := by omega
      rw [this] at e2
      omega
    · exact h
  have l1 : X / g ≤ X := Int.ediv_le_self _ hX
  have l2 : Y / g ≤ Y := Int.ediv_le_self _ (by omega)
  have hl : low X Y = (X / g, Y / g) := by unfold low; rw [hgd]
  rw [hl]
  exact ⟨g, hgi, e1.symm, e2.symm, n1, n3, l1, l2⟩
/-- A speed as a fraction against a number. -/
theorem low_lt {X Y A : Int} (hX : 0 ≤ X) (hY : 1 ≤ Y) : A * (low X Y).2 < (low X Y).1 ↔ A * Y < X := by
  obtain ⟨g, hg, e1, e2, -⟩ := low_spec hX hY
  generalize (low X Y).1 = j at *
  generalize (low X Y).2 = k at *
  subst e1
  subst e2
  rw [← Int.mul_assoc]
  constructor
  · intro h
    exact Int.mul_lt_mul_of_pos_right h (by omega)
  · intro h
    exact Int.lt_of_mul_lt_mul_right h (by omega)
/-- Cross products agree. -/
theorem low_cross {X Y : Int} (hX : 0 ≤ X) (hY : 1 ≤ Y) : X * (low X Y).2 = (low X Y).1 * Y := by
  obtain ⟨g, hg, e1, e2, -⟩ := low_spec hX hY
  generalize (low X Y).1 = j at *
  generalize (low X Y).2 = k at *
  subst e1
  subst e2
  rw [Int.mul_assoc, Int.mul_comm g k]
theorem qless_iff {a c d : Int} (ha : 0 ≤ a) (hc : 0 ≤ c) (hd : 1 ≤ d) : (if a = c / d then 0 < c % d else a < c / d) ↔ a * d < c := by
  have h1 := Int.mul_ediv_add_emod c d
  have h2 := Int.emod_nonneg c (show d ≠ 0 by omega)
  have h3 := Int.emod_lt_of_pos c (show 0 < d by omega)
  generalize c / d = q at *
  generalize c % d = r at *
  rw [Int.mul_comm] at h1
  split
  · rename_i h
    subst h
    omega
  · rename_i h
    constructor
    · intro hlt
      have : (a + 1) * d ≤ q * d := Int.mul_le_mul_of_nonneg_right (by omega) (by omega)
      rw [Int.add_mul] at this
      omega
    · intro hlt
      rcases Int.lt_or_le a q with h' | h'
      · exact h'
      · exfalso
        have : (q + 1) * d ≤ a * d := Int.mul_le_mul_of_nonneg_right (by omega) (by omega)
        rw [Int.add_mul] at this
        omega
set_option maxHeartbeats 4000000 in
theorem l_qLess (a c d : Int) (w : World) (ha : 0 ≤ a ∧ a ≤ 1000000000) (hc : 0 ≤ c ∧ c ≤ 1000000000000) (hd : 1 ≤ d ∧ d ≤ 1000000) :
    Calls Try.prog 21 #[.int .i64 a, .int .i64 1, .int .i64 c, .int .i64 d] w (Tells (a * d < c) w) := by
  have hq := qless_iff ha.1 hc.1 hd.1
  have h0 : 0 ≤ c / d := Int.ediv_nonneg hc.1 (by omega)
  have h1 : c / d ≤ c := Int.ediv_le_self _ hc.1
  have h2 := Int.emod_nonneg c (show d ≠ 0 by omega)
  have h3 := Int.emod_lt_of_pos c (show 0 < d by omega)
  have t1 : c.tdiv d = c / d := Int.tdiv_eq_ediv_of_nonneg hc.1
  have t2 : c.tmod d = c % d := Int.tmod_eq_emod_of_nonneg hc.1
  obtain ⟨q, hqe⟩ : ∃ q, c / d = q := ⟨_, rfl⟩
  obtain ⟨r, hre⟩ : ∃ r, c % d = r := ⟨_, rfl⟩
  rw [hqe] at hq h0 h1 t1
  rw [hre] at hq h2 h3 t2
  have Hq := Lib.hid hq
  have hdz : ¬d = 0 := by omega
  have s1 : a.tdiv 1 = a := Int.tdiv_one a
  have s2 : a.tmod 1 = 0 := Int.tmod_one a
  have w1 : IntKind.i64.wrap a = a := IntWalk.i64_in _ (by omega)
  have w2 : IntKind.i64.wrap q = q := IntWalk.i64_in _ (by omega)
  have w3 : IntKind.i64.wrap r = r := IntWalk.i64_in _ (by omega)
  clear hq
  by_cases e : a = q
  · have e1 : (a != q) = false := by simp [e]
    have e2 : (a == q) = true := by simp [e]
    have hv : Hid (a * d < c ↔ 0 < r) := by
      have := Hq.out
      rw [if_pos e] at this
      exact this.symm
    go_enter Try.func21, Try.ntmps21
    go_wp2_with (first | go_region)
    all_goals
      go_ret
      exact tells_of (by rw [decide_eq_true_iff]; exact hv.out.symm) (by (repeat (first | with_reducible exact Gw.refl _ | with_reducible assumption | ((with_reducible refine Gw.set ?_ ?_ _); rotate_left; (focus (first | (simp; done) | (simp; omega) | omega))) | with_reducible refine Gw.alloc ?_ _ | with_reducible refine Gw.drew ?_ | with_reducible refine Gw.drewN ?_ _ | (refine Gw.trans ?_ (by with_reducible assumption)))))
  · have e1 : (a != q) = true := by simp [e]
    have e2 : (a == q) = false := by simp [e]
    have hv : Hid (a * d < c ↔ a < q) := by
      have := Hq.out
      rw [if_neg e] at this
      exact this.symm
    have He := Lib.hid e
    clear e
    go_enter Try.func21, Try.ntmps21
    go_wp2_with (first | go_region)
    all_goals
      go_ret
      exact tells_of (by rw [decide_eq_true_iff]; exact hv.out.symm) (by (repeat (first | with_reducible exact Gw.refl _ | with_reducible assumption | ((with_reducible refine Gw.set ?_ ?_ _); rotate_left; (focus (first | (simp; done) | (simp; omega) | omega))) | with_reducible refine Gw.alloc ?_ _ | with_reducible refine Gw.drew ?_ | with_reducible refine Gw.drewN ?_ _ | (refine Gw.trans ?_ (by with_reducible assumption)))))
theorem tooL_mem {l : List MvT} {F lim : Int} {i : Nat} {x : MvT} (hx : l[i]? = some x) : ∀ k, (i : Int) ∈ tooL l F lim k ↔ i < k ∧ TooX x F lim
  | 0 => by simp [tooL]
  | k + 1 => by
    have ih := tooL_mem (F := F) (lim := lim) hx k
    by_cases hik : i = k
    · subst hik
      by_cases ht : TooX x F lim
      · rw [tooL_yes hx ht]
        simp [ht]
      · rw [tooL_no hx ht, ih]
        constructor
        · intro h; omega
        · intro h; exact absurd h.2 ht
    · have hne : ¬((i : Int) = (k : Int)) := by omega
      unfold tooL
      split
      · rw [List.mem_append, ih]
        simp only [List.mem_singleton, hne, or_false]
        constructor
        · intro h; exact ⟨by omega, h.2⟩
        · intro h; exact ⟨by omega, h.2⟩
      · rw [ih]
        constructor
        · intro h; exact ⟨by omega, h.2⟩
        · intro h; exact ⟨by omega, h.2⟩
theorem firstUp_facts {C : Int → Bool} : ∀ {f : Nat} {s n : Int}, firstUp C f s = (n, true) → s ≤ n ∧ n < s + f ∧ C n = true ∧ ∀ m, s ≤ m → m < n → C m = false
  | 0, s, n, h => by simp [firstUp] at h
  | f + 1, s, n, h => by
    unfold firstUp at h
    split at h
    · rename_i hc
      obtain rfl : s = n := (Prod.mk.inj h).1
      exact ⟨by omega, by omega, hc, fun m h1 h2 => by omega⟩
    · rename_i hc
      obtain ⟨h1, h2, h3, h4⟩ := firstUp_facts h
      refine ⟨by omega, by omega, h3, fun m hm1 hm2 => ?_⟩
      by_cases e : m = s
      · subst e; simpa using hc
      · exact h4 m (by omega) hm2
/-- What the reference's least counts tell. -/
theorem counts_facts {a b c d s t l n : Int} (h : countsAt a b c d s t l = (n, true)) : (SpotP a b ∧ SpotP c d) ∧ PaceP s t ∧ (40 ≤ l ∧ l ≤ 5280) ∧ 1 ≤ n ∧ n ≤ 64 ∧ countOk a b c d s t l n = true ∧ (2 ≤ n → countOk a b c d s t l (n - 1) = false) := by
  unfold countsAt at h
  split at h
  · rename_i hp
    obtain ⟨h1, h2, h3, h4⟩ := firstUp_facts h
    exact ⟨hp.1, hp.2.1, hp.2.2, h1, by omega, h3, fun h => h4 _ (by omega) (by omega)⟩
  · cases h
theorem speed_facts {a b c d n t : Int} (h : MoveP a b c d n) (ht : 40 ≤ t ∧ t ≤ 220) : ∃ j k : Int, moveSpeed a b c d n t = (j, k, true) ∧ (0 ≤ j ∧ j ≤ 1000000000000) ∧ (1 ≤ k ∧ k ≤ 4096) ∧ sq a b c d * t * t * k = j * n * n ∧ ∀ l, l * l * k < j ↔ FastP a b c d n t l := by
  have hsq := sq_bd h.1 h.2.1
  have hnn := nn_bd h.2.2
  have hX : 0 ≤ sq a b c d * t * t ∧ sq a b c d * t * t ≤ 2089984 * 220 * 220 := by
    have h1 := mul_in (x := sq a b c d) (y := t) ⟨by omega, hsq.2⟩ ⟨by omega, ht.2⟩
    have h2 := mul_in (x := sq a b c d * t) (y := t) ⟨by omega, h1.2⟩ ⟨by omega, ht.2⟩
    exact h2
  obtain ⟨g, _, _, _, n1, n2, n3, n4⟩ := low_spec hX.1 hnn.1
  refine ⟨(low (sq a b c d * t * t) (n * n)).1, (low (sq a b c d * t * t) (n * n)).2, by unfold moveSpeed; rw [if_pos ⟨h, ht⟩], ⟨n1, by omega⟩, ⟨n2, by omega⟩, ?_, fun l => ?_⟩
  · rw [low_cross hX.1 hnn.1]; exact (Int.mul_assoc _ _ _).symm
  · rw [low_lt hX.1 hnn.1, ← Int.mul_assoc]
theorem ok_iff {a b c d s t l n : Int} : countOk a b c d s t l n = (decide (WithinP a b c d n s) && !decide (FastP a b c d n t l)) := by
  unfold countOk
  rw [decide_not]
theorem lasts_facts {a b c d n : Int} {l : List (Int × Int)} {f x : Int} (h : moveLasts a b c d n l f = (x, true)) : MoveP a b c d n ∧ MusicP l ∧ 0 ≤ f ∧ f + n ≤ sumC l ∧ x = timeF l (f + n) - timeF l f := by
  unfold moveLasts at h
  split at h
  · rename_i hp
    exact ⟨hp.1, hp.2.1, hp.2.2.1, hp.2.2.2, (Prod.mk.inj h).1.symm⟩
  · cases h
theorem speed_is {a b c d n t x y : Int} (h : moveSpeed a b c d n t = (x, y, true)) : MoveP a b c d n ∧ 40 ≤ t ∧ t ≤ 220 := by
  unfold moveSpeed at h
  split at h
  · rename_i hp; exact hp
  · cases h
theorem too_is {l : List MvT} {mu : List (Int × Int)} {f lim : Int} {r : List Int} (h : tooF l mu f lim = (r, true)) : TooP l mu f lim ∧ r = tooL l (fstF mu f (n0 l).toNat) lim l.length := by
  by_cases hp : TooP l mu f lim
  · rw [tooF_good hp] at h
    exact ⟨hp, (Prod.mk.inj h).1.symm⟩
  · rw [tooF_bad hp] at h; cases h
end Go.Proofs.Ythokcddabgojgaa
