/-
  The plain laws of paces, and what the drawn law asks of lists of paces.
-/
import Derived.Test.YtehkpdepomgapaaPaceD
import Derived.Test.YtehkpdepomgapaaPaces
import Derived.Test.YtehkpdepomgapaaSpot
import Derived.Deep.DeepCutAuto
namespace Go.Proofs.Ytehkpdepomgapaa
open Go.RowKit Go.ChangeShapes Go.WideShapes

/-- What is left of a text behind its first n statements. -/
def _root_.Go.Code.tailOf : Nat → Code → Code
  | 0, c => c
  | n + 1, .seq _ b => Go.Code.tailOf n b
  | _ + 1, c => c

instance : Plain UInt8 where
  ks := [.int .u8]
  kslen := rfl
  ok := fun _ => True
  of := fun cs hr0 => by
    obtain ⟨_, _, rfl, ⟨x0, rfl, h0⟩, hr1⟩ := hr0.cons
    obtain rfl := hr1.nil
    have hb : 0 ≤ x0 ∧ x0 ≤ 255 := by
      simp [Lit.wf, IntKind.min, IntKind.max, IntKind.signed, IntKind.bits] at h0
      omega
    refine ⟨UInt8.ofNat x0.toNat, ?_, trivial⟩
    show [Value.int .u8 x0] = [Value.int .u8 ((UInt8.ofNat x0.toNat).toNat : Int)]
    have : ((UInt8.ofNat x0.toNat).toNat : Int) = x0 := by
      rw [UInt8.toNat_ofNat']
      omega
    rw [this]

set_option maxHeartbeats 400000 in
theorem l_qPaces (A B : Option Addr) (c d : Nat) (l : List (Int × Int)) (w : World) (hl : l.length ≤ 1048576) (hA : Rd w A l) (hB : Rd w B l) :
    Calls Try.prog 20 #[.slice A l.length c, .slice B l.length d] w fun e w' => e = .returned (.bool true) ∧ Gw w w' := by
  go_enter Try.func20, Try.ntmps20
  go_wp2
  go_loopw [13, 5] (fun i z wr => ∃ k : Nat, i = .int .i64 k ∧ k ≤ l.length ∧ Gw w wr) (fun i _ _ => l.length - (intOf i).toNat)
  case atStart => exact ⟨0, by go_num, Nat.zero_le _, by (repeat (first | with_reducible exact Gw.refl _ | with_reducible assumption | ((with_reducible refine Gw.set ?_ ?_ _); rotate_left; (focus (first | (simp; done) | (simp; omega) | omega))) | with_reducible refine Gw.alloc ?_ _ | with_reducible refine Gw.drew ?_ | with_reducible refine Gw.drewN ?_ _ | (refine Gw.trans ?_ (by with_reducible assumption))))⟩
  case round =>
    obtain ⟨k, rfl, hk, hgw⟩ := hrel
    by_cases hlt : k < l.length
    · obtain ⟨x, hx⟩ := get_of_lt hlt
      obtain ⟨b, off, rfl, hb, c0, c1⟩ := (hA.gw hgw).get2 hx
      obtain ⟨b', off', rfl, hb', d0, d1⟩ := (hB.gw hgw).get2 hx
      have Hx : Hid (l[k]? = some x) := hx; clear hx
      go_wp2_with ((with_reducible refine wp_region_gw (by kernel_rfl) (by kernel_rfl) ?_); have hcq := @GwOf.cell; (repeat (go_big_quiet_step (fail))); refine wpQuiet_nil ?_; clear hcq; rintro w' ⟨⟨w', hb⟩, rfl⟩; (try dsimp only); have hc := hb.cells; have hf := hb.frozens; have hz := hb.size; (try simp at hz); (try have hz0 : w.heap.size < w'.heap.size := (by omega)); (try have hz1 : w.heap.size + 1 < w'.heap.size := (by omega)); (try have hz2 : w.heap.size + 2 < w'.heap.size := (by omega)); (try have hz3 : w.heap.size + 3 < w'.heap.size := (by omega)); (try have hz4 : w.heap.size + 4 < w'.heap.size := (by omega)); (try have hz5 : w.heap.size + 5 < w'.heap.size := (by omega)))
      go_roundw
      case rel => exact ⟨k + 1, by go_num, by omega, by (repeat (first | with_reducible exact Gw.refl _ | with_reducible assumption | ((with_reducible refine Gw.set ?_ ?_ _); rotate_left; (focus (first | (simp; done) | (simp; omega) | omega))) | with_reducible refine Gw.alloc ?_ _ | with_reducible refine Gw.drew ?_ | with_reducible refine Gw.drewN ?_ _ | (refine Gw.trans ?_ (by with_reducible assumption))))⟩
      case measure => simp [intOf]; omega
    · go_wp2
      go_ret
      exact ⟨rfl, by (repeat (first | with_reducible exact Gw.refl _ | with_reducible assumption | ((with_reducible refine Gw.set ?_ ?_ _); rotate_left; (focus (first | (simp; done) | (simp; omega) | omega))) | with_reducible refine Gw.alloc ?_ _ | with_reducible refine Gw.drew ?_ | with_reducible refine Gw.drewN ?_ _ | (refine Gw.trans ?_ (by with_reducible assumption))))⟩

/-- IsPace in the words of SpeedOf. -/
theorem i_IsPaceS (a b : Int) (w : World) : Calls Try.prog 21 #[.agg #[.int .i64 a, .int .i64 b]] w fun e w' => e = .returned (.bool (speedOf a b).2.2) ∧ Gw w w' :=
  (i_IsPace a b w).mono fun e w' h => by
    rcases h with ⟨hp, he, hg⟩ | ⟨hp, he, hg⟩
    · refine ⟨?_, hg⟩
      rw [he]; unfold speedOf; rw [if_pos hp]
    · refine ⟨?_, hg⟩
      rw [he]; unfold speedOf; rw [if_neg hp]

theorem compSpeeds_one {a b c d : Int} (h : (compSpeeds a b c d).2 = true) : (speedOf a b).2.2 = true := by
  unfold compSpeeds at h
  unfold speedOf
  split at h
  · rename_i h'; rw [if_pos h'.1]
  · simp at h

theorem compSpeeds_back {a b c d : Int} (h : (compSpeeds a b c d).2 = true) : (compSpeeds c d a b).2 = true ∧ (compSpeeds c d a b).1 = -(compSpeeds a b c d).1 ∧ (-1 ≤ (compSpeeds a b c d).1 ∧ (compSpeeds a b c d).1 ≤ 1) := by
  unfold compSpeeds at h ⊢
  split at h
  · rename_i h'
    rw [if_pos h', if_pos h'.symm]
    refine ⟨rfl, ?_, ?_⟩
    · dsimp only
      unfold sgn
      (repeat' split) <;> omega
    · dsimp only
      unfold sgn
      (repeat' split) <;> omega
  · simp at h

theorem mostStep_ok (t l : Int) (h : (mostStep t l).2 = true) :
    (1 ≤ (mostStep t l).1 ∧ (mostStep t l).1 ≤ 24) ∧ (40 ≤ t ∧ t ≤ 220) ∧ (40 ≤ l ∧ l ≤ 5280) ∧ (0 ≤ (mostStep t l).1 * t ∧ (mostStep t l).1 * t ≤ l) ∧ (0 ≤ ((mostStep t l).1 + 1) * t ∧ ((mostStep t l).1 + 1) * t ≤ 10000) ∧ (24 ≤ (mostStep t l).1 ∨ l < ((mostStep t l).1 + 1) * t) := by
  unfold mostStep at h ⊢
  split at h
  · rename_i h'
    obtain ⟨h1, h2, h3⟩ := h'
    rw [if_pos ⟨h1, h2, h3⟩]
    dsimp only
    have e1 : 1 ≤ l / t := (Int.le_ediv_iff_mul_le (by omega)).2 (by omega)
    have e2 : l / t * t ≤ l := Int.ediv_mul_le _ (by omega)
    have e3 : l < (l / t + 1) * t := Int.lt_ediv_add_one_mul_self _ (by omega)
    have e5 : min (l / t) 24 ≤ l / t := by omega
    have e6 : 0 ≤ min (l / t) 24 := by omega
    have e4 : min (l / t) 24 * t ≤ l / t * t := Int.mul_le_mul_of_nonneg_right e5 (by omega)
    have e7 : 0 ≤ min (l / t) 24 * t := Int.mul_nonneg e6 (by omega)
    have e8 : (min (l / t) 24 + 1) * t = min (l / t) 24 * t + t := by rw [Int.add_mul, Int.one_mul]
    refine ⟨by omega, h1, h2, ⟨e7, by omega⟩, ⟨by omega, by omega⟩, ?_⟩
    by_cases hc : 24 ≤ l / t
    · left; omega
    · right
      rw [show min (l / t) 24 = l / t by omega]
      exact e3
  · simp at h

theorem mostTempo_ok (t l : Int) (h : (mostTempo t l).2 = true) :
    (40 ≤ (mostTempo t l).1 ∧ (mostTempo t l).1 ≤ 220) ∧ (1 ≤ t ∧ t ≤ 24) ∧ (40 ≤ l ∧ l ≤ 5280) ∧ (0 ≤ (mostTempo t l).1 * t ∧ (mostTempo t l).1 * t ≤ l) ∧ (0 ≤ ((mostTempo t l).1 + 1) * t ∧ ((mostTempo t l).1 + 1) * t ≤ 10000) ∧ (220 ≤ (mostTempo t l).1 ∨ l < ((mostTempo t l).1 + 1) * t) := by
  unfold mostTempo at h ⊢
  split at h
  · rename_i h'
    obtain ⟨h1, h2, h3⟩ := h'
    rw [if_pos ⟨h1, h2, h3⟩]
    dsimp only
    have e1 : 40 ≤ l / t := (Int.le_ediv_iff_mul_le (by omega)).2 (by omega)
    have e2 : l / t * t ≤ l := Int.ediv_mul_le _ (by omega)
    have e3 : l < (l / t + 1) * t := Int.lt_ediv_add_one_mul_self _ (by omega)
    have e5 : min (l / t) 220 ≤ l / t := by omega
    have e6 : 0 ≤ min (l / t) 220 := by omega
    have e4 : min (l / t) 220 * t ≤ l / t * t := Int.mul_le_mul_of_nonneg_right e5 (by omega)
    have e7 : 0 ≤ min (l / t) 220 * t := Int.mul_nonneg e6 (by omega)
    have e8 : (min (l / t) 220 + 1) * t = min (l / t) 220 * t + t := by rw [Int.add_mul, Int.one_mul]
    refine ⟨by omega, h1, h2, ⟨e7, by omega⟩, ⟨by omega, by omega⟩, ?_⟩
    by_cases hc : 220 ≤ l / t
    · left; omega
    · right
      rw [show min (l / t) 220 = l / t by omega]
      exact e3
  · simp at h

theorem speedOf_ok (a b : Int) (h : (speedOf a b).2.2 = true) :
    PaceP a b ∧ (40 ≤ a * b ∧ a * b ≤ 5280) ∧ (0 ≤ (speedOf a b).1 ∧ (speedOf a b).1 ≤ 5280) ∧ (0 ≤ (speedOf a b).2.1 ∧ (speedOf a b).2.1 ≤ 60) ∧ (speedOf a b).1 * 60 = a * b * (speedOf a b).2.1 := by
  unfold speedOf at h ⊢
  split at h
  · rename_i h'
    rw [if_pos h']
    have hb := mul_bd h'
    dsimp only
    unfold low
    generalize a * b = p at hb ⊢
    have hg1 : (Int.gcd p 60 : Int) ∣ p := Int.gcd_dvd_left ..
    have hg2 : (Int.gcd p 60 : Int) ∣ 60 := Int.gcd_dvd_right ..
    have hg0 : (0 : Int) < (Int.gcd p 60 : Int) := by
      have : 0 < Int.gcd p 60 := Int.gcd_pos_of_ne_zero_left _ (by omega)
      omega
    generalize (Int.gcd p 60 : Int) = g at hg1 hg2 hg0 ⊢
    have e1 := Int.ediv_mul_cancel hg1
    have e2 := Int.ediv_mul_cancel hg2
    have b1 : 0 ≤ p / g ∧ p / g ≤ p := ⟨Int.ediv_nonneg (by omega) (by omega), Int.ediv_le_self _ (by omega)⟩
    have b2 : 0 ≤ 60 / g ∧ 60 / g ≤ 60 := ⟨Int.ediv_nonneg (by omega) (by omega), Int.ediv_le_self _ (by omega)⟩
    refine ⟨h', hb, by omega, b2, ?_⟩
    generalize p / g = u at e1 b1 ⊢
    generalize 60 / g = v at e2 b2 ⊢
    rw [← e1, ← e2]
    rw [Int.mul_assoc u g v, Int.mul_comm g v]
  · simp at h

def lastOf (P : List (Int × Int)) (k : Nat) (lo : Int) : Int := if k = 0 then lo - 1 else ((P[k - 1]?).getD (0, 0)).1
theorem lastOf_succ {P : List (Int × Int)} {k : Nat} {lo : Int} {x : Int × Int} (h : P[k]? = some x) : lastOf P (k + 1) lo = x.1 := by
  unfold lastOf
  rw [if_neg (by omega)]
  simp [h]

theorem pacesUp_ok (L : Int) (f : Nat) (s : Int) (k : Nat) (x : Int × Int) (h : (pacesUp L f s)[k]? = some x) : lastOf (pacesUp L f s) k s < x.1 ∧ PaceP x.1 x.2 ∧ x.1 * x.2 = L ∧ s ≤ x.1 := by
  induction f generalizing s k with
  | zero => simp [pacesUp] at h
  | succ f ih =>
    unfold pacesUp at h ⊢
    split at h
    · rename_i hc
      rw [if_pos hc]
      cases k with
      | zero =>
        simp at h
        subst h
        refine ⟨by simp [lastOf]; omega, hc.2, Int.mul_ediv_cancel' (Int.dvd_of_emod_eq_zero hc.1), by simp⟩
      | succ k =>
        simp at h
        obtain ⟨h1, h2, h3, h4⟩ := ih (s + 1) k h
        refine ⟨?_, h2, h3, by omega⟩
        cases k with
        | zero => simp [lastOf]; omega
        | succ k => simpa [lastOf] using h1
    · rename_i hc
      rw [if_neg hc]
      obtain ⟨h1, h2, h3, h4⟩ := ih (s + 1) k h
      refine ⟨?_, h2, h3, by omega⟩
      cases k with
      | zero => simp [lastOf]; omega
      | succ k => simpa [lastOf] using h1
theorem pacesAt_ok {L s : Int} {k : Nat} {x : Int × Int} (h : (pacesAt L s).1[k]? = some x) : lastOf (pacesAt L s).1 k s < x.1 ∧ PaceP x.1 x.2 ∧ x.1 * x.2 = L ∧ s ≤ x.1 := by
  unfold pacesAt at h ⊢
  split at h
  · rename_i hc; rw [if_pos hc]; exact pacesUp_ok L _ s k x h
  · simp at h

theorem mem_pacesUp (L : Int) (f : Nat) (s n : Int) : (∃ x ∈ pacesUp L f s, x.1 = n) ↔ s ≤ n ∧ n < s + f ∧ L % n = 0 ∧ PaceP n (L / n) := by
  induction f generalizing s with
  | zero => simp [pacesUp]; omega
  | succ f ih =>
    unfold pacesUp
    split
    · rename_i hc
      simp only [List.mem_cons, exists_eq_or_imp, ih]
      constructor
      · rintro (h | h)
        · subst h; exact ⟨by omega, by omega, hc⟩
        · exact ⟨by omega, by omega, h.2.2⟩
      · rintro ⟨h1, h2, h3⟩
        by_cases he : s = n
        · left; exact he
        · right; exact ⟨by omega, by omega, h3⟩
    · rename_i hc
      rw [ih]
      constructor
      · rintro h; exact ⟨by omega, by omega, h.2.2⟩
      · rintro ⟨h1, h2, h3⟩
        by_cases he : s = n
        · subst he; exact absurd h3 hc
        · exact ⟨by omega, by omega, h3⟩
theorem found_iff {L s n : Int} (h7 : (pacesAt L s).2 = true) (h1 : s ≤ n) (h2 : n ≤ 24) :
    (∃ x ∈ (pacesAt L s).1, x.1 = n) ↔ ((mostTempo n L).2 = true ∧ (mostTempo n L).1 * n = L) := by
  unfold pacesAt at h7 ⊢
  split at h7
  · rename_i hc
    rw [if_pos hc]
    dsimp only
    rw [mem_pacesUp]
    have hn : 0 < n := by omega
    have ed : n * (L / n) + L % n = L := Int.mul_ediv_add_emod L n
    have em := Int.emod_nonneg L (show n ≠ 0 by omega)
    have e40 : 40 ≤ L / n ↔ 40 * n ≤ L := Int.le_ediv_iff_mul_le hn
    unfold mostTempo
    split
    · rename_i hm
      have h40 := e40.2 hm.2.2
      dsimp only
      constructor
      · rintro ⟨-, -, h3, h4⟩
        refine ⟨rfl, ?_⟩
        rw [show min (L / n) 220 = L / n by omega, Int.mul_comm]
        omega
      · rintro ⟨-, h3⟩
        have hle : L / n ≤ 220 := by
          by_cases hle : L / n ≤ 220
          · exact hle
          · rw [show min (L / n) 220 = 220 by omega] at h3
            have : L / n = 220 := by rw [← h3]; exact Int.mul_ediv_cancel _ (by omega)
            omega
        rw [show min (L / n) 220 = L / n by omega, Int.mul_comm] at h3
        exact ⟨by omega, by omega, by omega, by omega, by omega⟩
    · rename_i hm
      constructor
      · rintro ⟨-, -, h3, h4⟩
        exact absurd ⟨by omega, by omega, e40.1 h4.2.1⟩ hm
      · simp
  · simp at h7
theorem seven_bd {L s : Int} (h7 : (pacesAt L s).2 = true) : (40 ≤ L ∧ L ≤ 5280) ∧ 1 ≤ s ∧ s ≤ 24 := by
  unfold pacesAt at h7
  split at h7
  · assumption
  · simp at h7
def anyTo (P : List (Int × Int)) (n : Int) (k : Nat) : Bool := (P.take k).any fun x => x.1 == n
theorem anyTo_succ {P : List (Int × Int)} {n : Int} {k : Nat} {x : Int × Int} (h : P[k]? = some x) : anyTo P n (k + 1) = (anyTo P n k || x.1 == n) := by
  unfold anyTo
  rw [List.take_add_one, h]
  simp
theorem anyTo_all {P : List (Int × Int)} {n : Int} {k : Nat} (h : P.length ≤ k) : anyTo P n k = decide (∃ x ∈ P, x.1 = n) := by
  unfold anyTo
  rw [List.take_of_length_le h]
  apply Bool.eq_iff_iff.2
  simp
end Go.Proofs.Ytehkpdepomgapaa
