/-
  What is a schedule.
-/
import Derived.Test.YtegokhpbjhanbaaWin
import Derived.Test.YtegokhpbjhanbaaBook
namespace Go.Proofs.Ytegokhpbjhanbaa
open Go.RowKit

abbrev forP (l : List (Int × Int × Int)) (n f t : Int) : Prop := ∃ y ∈ l, y.1 = n ∧ y.2.1 ≤ f ∧ t ≤ y.2.2
abbrev fitB (W : List (Int × Int × Int)) (r : (Int × Int)) (x : (Int × Int × Int × Int)) : Prop := x.1 = r.1 ∧ x.2.2.2 - x.2.2.1 = r.2 ∧ forP W x.2.1 x.2.2.1 x.2.2.2
def FitTo (W : List (Int × Int × Int)) (L : List (Int × Int)) (S : List (Int × Int × Int × Int)) (k : Nat) : Prop := ∀ i x r, i < k → S[i]? = some x → L[i]? = some r → fitB W r x
theorem FitTo.succ {W : List (Int × Int × Int)} {L : List (Int × Int)} {S : List (Int × Int × Int × Int)} {k : Nat} {x : (Int × Int × Int × Int)} {r : (Int × Int)} (h : FitTo W L S k) (hx : S[k]? = some x) (hr : L[k]? = some r) (hp : fitB W r x) : FitTo W L S (k + 1) := by
  intro i y q hi hy hq
  by_cases e : i = k
  · subst e; rw [hx] at hy; rw [hr] at hq; cases hy; cases hq; exact hp
  · exact h i y q (by omega) hy hq
abbrev SchedP (W : List (Int × Int × Int)) (L : List (Int × Int)) (S : List (Int × Int × Int × Int)) : Prop := S.length = L.length ∧ ∀ (i : Nat) (x : (Int × Int × Int × Int)) (r : (Int × Int)), S[i]? = some x → L[i]? = some r → fitB W r x
open Classical in
noncomputable def schedF (W : List (Int × Int × Int)) (L : List (Int × Int)) (S : List (Int × Int × Int × Int)) : Bool × Bool := if WinsP W ∧ RehP L ∧ BookP S then (decide (SchedP W L S), true) else (false, false)
open Classical in
theorem schedF_yes {W : List (Int × Int × Int)} {L : List (Int × Int)} {S : List (Int × Int × Int × Int)} (h : WinsP W ∧ RehP L ∧ BookP S) (g : SchedP W L S) : schedF W L S = (true, true) := by unfold schedF; rw [if_pos h]; simp only [decide_eq_true g]
open Classical in
theorem schedF_no {W : List (Int × Int × Int)} {L : List (Int × Int)} {S : List (Int × Int × Int × Int)} (h : WinsP W ∧ RehP L ∧ BookP S) (g : ¬SchedP W L S) : schedF W L S = (false, true) := by unfold schedF; rw [if_pos h]; simp only [decide_eq_false g]
theorem schedF_bad {W : List (Int × Int × Int)} {L : List (Int × Int)} {S : List (Int × Int × Int × Int)} (h : ¬(WinsP W ∧ RehP L ∧ BookP S)) : schedF W L S = (false, false) := by unfold schedF; rw [if_neg h]
theorem ret_bb {f : Bool × Bool} {a b : Bool} (h : f = (a, b)) : Ending.returned (.tuple #[.bool a, .bool b]) = .returned (.tuple #[.bool f.1, .bool f.2]) := by rw [h]

set_option maxHeartbeats 2000000 in
theorem s_reOpen (A : Option Addr) (cap : Nat) (l : List (Int × Int × Int)) (n f t : Int) (w : World) (hl : l.length ≤ 1048576) (hA : Rd w A l) :
    Calls Try.prog 96 #[.slice A l.length cap, .int .i64 n, .int .i64 f, .int .i64 t] w (Tells (forP l n f t) w) := by
  go_enter Try.func96, Try.ntmps96
  go_wp2_with fail
  go_loopw [13] (fun i wr => ∃ k : Nat, i = .int .i64 k ∧ k ≤ l.length ∧ Hid (AllTo (fun y : (Int × Int × Int) => ¬(y.1 = n ∧ y.2.1 ≤ f ∧ t ≤ y.2.2)) l k) ∧ Gw w wr) (fun i _ => l.length - (intOf i).toNat)
  case atStart => exact ⟨0, by go_num, Nat.zero_le _, AllTo.zero, by (repeat (first | with_reducible exact Gw.refl _ | with_reducible assumption | ((with_reducible refine Gw.set ?_ ?_ _); rotate_left; (focus (first | (simp; done) | (simp; omega) | omega))) | with_reducible refine Gw.alloc ?_ _ | with_reducible refine Gw.drew ?_ | with_reducible refine Gw.drewN ?_ _ | (refine Gw.trans ?_ (by with_reducible assumption))))⟩
  case round =>
    obtain ⟨k, rfl, hk, hall, hgw⟩ := hrel
    by_cases hlt : k < l.length
    · obtain ⟨x, hx⟩ := get_of_lt hlt
      obtain ⟨x1, x2, x3⟩ := x
      obtain ⟨b, off, rfl, hb, c0, c1, c2⟩ := (hA.gw hgw).get3 hx
      dsimp only at c0 c1 c2
      have Hx := Lib.hid hx
      clear hx
      by_cases h1 : x1 = n
      · have e1 : (x1 == n) = true := by simp [h1]
        by_cases h2 : x2 ≤ f
        · by_cases h3 : t ≤ x3
          · have He : Hid (∃ y ∈ l, y.1 = n ∧ y.2.1 ≤ f ∧ t ≤ y.2.2) := ⟨_, mem_of_get Hx.out, h1, h2, h3⟩
            go_wp2_with fail
            go_ret
            exact .inl ⟨He.out, rfl, by (repeat (first | with_reducible exact Gw.refl _ | with_reducible assumption | ((with_reducible refine Gw.set ?_ ?_ _); rotate_left; (focus (first | (simp; done) | (simp; omega) | omega))) | with_reducible refine Gw.alloc ?_ _ | with_reducible refine Gw.drew ?_ | with_reducible refine Gw.drewN ?_ _ | (refine Gw.trans ?_ (by with_reducible assumption))))⟩
          · go_wp2_with fail
            go_roundw
            case rel => exact ⟨k + 1, by go_num, by omega, AllTo.succ hall.out Hx.out (by dsimp only; omega), by (repeat (first | with_reducible exact Gw.refl _ | with_reducible assumption | ((with_reducible refine Gw.set ?_ ?_ _); rotate_left; (focus (first | (simp; done) | (simp; omega) | omega))) | with_reducible refine Gw.alloc ?_ _ | with_reducible refine Gw.drew ?_ | with_reducible refine Gw.drewN ?_ _ | (refine Gw.trans ?_ (by with_reducible assumption))))⟩
            case measure => simp [intOf]; omega
        · go_wp2_with fail
          go_roundw
          case rel => exact ⟨k + 1, by go_num, by omega, AllTo.succ hall.out Hx.out (by dsimp only; omega), by (repeat (first | with_reducible exact Gw.refl _ | with_reducible assumption | ((with_reducible refine Gw.set ?_ ?_ _); rotate_left; (focus (first | (simp; done) | (simp; omega) | omega))) | with_reducible refine Gw.alloc ?_ _ | with_reducible refine Gw.drew ?_ | with_reducible refine Gw.drewN ?_ _ | (refine Gw.trans ?_ (by with_reducible assumption))))⟩
          case measure => simp [intOf]; omega
      · have e1 : (x1 == n) = false := by simp [h1]
        go_wp2_with fail
        go_roundw
        case rel => exact ⟨k + 1, by go_num, by omega, AllTo.succ hall.out Hx.out (by dsimp only; omega), by (repeat (first | with_reducible exact Gw.refl _ | with_reducible assumption | ((with_reducible refine Gw.set ?_ ?_ _); rotate_left; (focus (first | (simp; done) | (simp; omega) | omega))) | with_reducible refine Gw.alloc ?_ _ | with_reducible refine Gw.drew ?_ | with_reducible refine Gw.drewN ?_ _ | (refine Gw.trans ?_ (by with_reducible assumption))))⟩
        case measure => simp [intOf]; omega
    · have HA : Hid (∀ y ∈ l, ¬(y.1 = n ∧ y.2.1 ≤ f ∧ t ≤ y.2.2)) := AllTo.all hall.out (by omega)
      go_wp2_with fail
      go_ret
      exact .inr ⟨fun ⟨x, hx, hp⟩ => HA.out x hx hp, rfl, by (repeat (first | with_reducible exact Gw.refl _ | with_reducible assumption | ((with_reducible refine Gw.set ?_ ?_ _); rotate_left; (focus (first | (simp; done) | (simp; omega) | omega))) | with_reducible refine Gw.alloc ?_ _ | with_reducible refine Gw.drew ?_ | with_reducible refine Gw.drewN ?_ _ | (refine Gw.trans ?_ (by with_reducible assumption))))⟩


end Go.Proofs.Ytegokhpbjhanbaa