/-
  Who rehearses in a place and an hour.
-/
import Derived.Test.YtegokhpbjhanbaaBook
import Derived.Test.YtegokhpbjhanbaaTell
namespace Go.Proofs.Ytegokhpbjhanbaa
open Go.RowKit

/-- The index of the first element with p, from i on, or -1. -/
def findP {α : Type} (p : α → Bool) : List α → Nat → Int
  | [], _ => -1
  | x :: l, i => if p x = true then (i : Int) else findP p l (i + 1)
theorem findP_cases {α : Type} (p : α → Bool) (l : List α) (i : Nat) : (∃ k x, findP p l i = ((i + k : Nat) : Int) ∧ l[k]? = some x ∧ l.find? p = some x) ∨ (findP p l i = -1 ∧ l.find? p = none) := by
  induction l generalizing i with
  | nil => exact .inr ⟨rfl, rfl⟩
  | cons x l ih =>
    by_cases h : p x = true
    · refine .inl ⟨0, x, ?_, rfl, by simp [h]⟩
      simp [findP, h]
    · rcases ih (i + 1) with ⟨k, y, h1, h2, h3⟩ | ⟨h1, h2⟩
      · refine .inl ⟨k + 1, y, ?_, by simpa using h2, by rw [List.find?_cons, show p x = false by simpa using h]; exact h3⟩
        rw [findP, if_neg h, h1]
        omega
      · exact .inr ⟨by rw [findP, if_neg h, h1], by rw [List.find?_cons, show p x = false by simpa using h]; exact h2⟩
theorem find_take {α : Type} {p : α → Bool} {l : List α} {k : Nat} {x : α} (h : AllTo (fun x => ¬p x = true) l k) (hx : l[k]? = some x) (hp : p x = true) : l.find? p = some x := by
  induction l generalizing k with
  | nil => simp at hx
  | cons y l ih =>
    cases k with
    | zero => simp at hx; subst hx; rw [List.find?_cons, hp]
    | succ k =>
      rw [List.find?_cons, show p y = false by simpa using h 0 y (by omega) rfl]
      exact ih (k := k) (fun i z hi hz => h (i + 1) z (by omega) (by simpa using hz)) (by simpa using hx)
theorem find_none {α : Type} {p : α → Bool} {l : List α} {k : Nat} (h : AllTo (fun x => ¬p x = true) l k) (hk : l.length ≤ k) : l.find? p = none := by
  rw [List.find?_eq_none]
  exact AllTo.all h hk

abbrev atP (n h : Int) : (Int × Int × Int × Int) → Bool := fun x => decide (x.2.1 = n ∧ x.2.2.1 ≤ h ∧ h < x.2.2.2)
def whoR : Option (Int × Int × Int × Int) → Int × Bool
  | some x => (x.1, true)
  | none => (0, false)
open Classical in
noncomputable def whoF (l : List (Int × Int × Int × Int)) (n h : Int) : Int × Bool := if BookP l ∧ InR n 1 9 ∧ InR h 0 167 then whoR (l.find? (atP n h)) else (0, false)

set_option maxHeartbeats 2000000 in
theorem s_reAt (A : Option Addr) (cap : Nat) (l : List (Int × Int × Int × Int)) (n h : Int) (w : World) (hl : l.length ≤ 1048576) (hA : Rd w A l) (hP : ∀ x ∈ l, 0 ≤ x.2.2.2 ∧ x.2.2.2 ≤ 168) :
    Calls Try.prog 66 #[.slice A l.length cap, .int .i64 n, .int .i64 h] w fun e w' => e = .returned (.int .i64 (findP (atP n h) l 0)) ∧ Gw w w' := by
  have HP := Lib.hid hP
  clear hP
  go_enter Try.func66, Try.ntmps66
  go_wp2_with fail
  go_loopw [11] (fun i wr => ∃ k : Nat, i = .int .i64 k ∧ k ≤ l.length ∧ Hid (findP (atP n h) (l.drop k) k = findP (atP n h) l 0) ∧ Gw w wr) (fun i _ => l.length - (intOf i).toNat)
  case atStart => exact ⟨0, by go_num, Nat.zero_le _, by unfold Hid; simp, by (repeat (first | with_reducible exact Gw.refl _ | with_reducible assumption | ((with_reducible refine Gw.set ?_ ?_ _); rotate_left; (focus (first | (simp; done) | (simp; omega) | omega))) | with_reducible refine Gw.alloc ?_ _ | with_reducible refine Gw.drew ?_ | with_reducible refine Gw.drewN ?_ _ | (refine Gw.trans ?_ (by with_reducible assumption))))⟩
  case round =>
    obtain ⟨k, rfl, hk, hq, hgw⟩ := hrel
    by_cases hlt : k < l.length
    · obtain ⟨x, hx⟩ := get_of_lt hlt
      obtain ⟨b, off, rfl, hb, c0, c1, c2, c3⟩ := (hA.gw hgw).get4 hx
      have h0 := HP.out x (mem_of_get hx)
      have hd := Lib.hid (drop_of' hx)
      clear hx
      by_cases h1 : x.2.1 = n
      · have e1 : (x.2.1 == n) = true := by simp [h1]
        go_wp2_with (first | (go_at_call 63; refine (s_l1In _ _ _ _).mono ?_; rintro e w' (⟨hp, rfl, rfl⟩ | ⟨hp, rfl, rfl⟩)))
        · have hfin : Hid (findP (atP n h) l 0 = (k : Int)) := by unfold Hid; rw [← hq.out, hd.out, findP, if_pos (by simp only [decide_eq_true_eq]; omega)]
          go_ret
          exact ⟨ret_int hfin.out.symm, by (repeat (first | with_reducible exact Gw.refl _ | with_reducible assumption | ((with_reducible refine Gw.set ?_ ?_ _); rotate_left; (focus (first | (simp; done) | (simp; omega) | omega))) | with_reducible refine Gw.alloc ?_ _ | with_reducible refine Gw.drew ?_ | with_reducible refine Gw.drewN ?_ _ | (refine Gw.trans ?_ (by with_reducible assumption))))⟩
        · have hn' : Hid (findP (atP n h) (l.drop (k + 1)) (k + 1) = findP (atP n h) l 0) := by unfold Hid; rw [← hq.out, hd.out, findP, if_neg (by simp only [decide_eq_true_eq]; omega)]
          go_roundw
          case rel => exact ⟨k + 1, by go_num, by omega, hn', by (repeat (first | with_reducible exact Gw.refl _ | with_reducible assumption | ((with_reducible refine Gw.set ?_ ?_ _); rotate_left; (focus (first | (simp; done) | (simp; omega) | omega))) | with_reducible refine Gw.alloc ?_ _ | with_reducible refine Gw.drew ?_ | with_reducible refine Gw.drewN ?_ _ | (refine Gw.trans ?_ (by with_reducible assumption))))⟩
          case measure => simp [intOf]; omega
      · have e1 : (x.2.1 == n) = false := by simp [h1]
        have hn' : Hid (findP (atP n h) (l.drop (k + 1)) (k + 1) = findP (atP n h) l 0) := by unfold Hid; rw [← hq.out, hd.out, findP, if_neg (by simp only [decide_eq_true_eq]; omega)]
        go_wp2_with fail
        go_roundw
        case rel => exact ⟨k + 1, by go_num, by omega, hn', by (repeat (first | with_reducible exact Gw.refl _ | with_reducible assumption | ((with_reducible refine Gw.set ?_ ?_ _); rotate_left; (focus (first | (simp; done) | (simp; omega) | omega))) | with_reducible refine Gw.alloc ?_ _ | with_reducible refine Gw.drew ?_ | with_reducible refine Gw.drewN ?_ _ | (refine Gw.trans ?_ (by with_reducible assumption))))⟩
        case measure => simp [intOf]; omega
    · have hfin : Hid (findP (atP n h) l 0 = -1) := by unfold Hid; rw [← hq.out, List.drop_of_length_le (by omega)]; rfl
      go_wp2_with fail
      go_ret
      exact ⟨ret_int hfin.out.symm, by (repeat (first | with_reducible exact Gw.refl _ | with_reducible assumption | ((with_reducible refine Gw.set ?_ ?_ _); rotate_left; (focus (first | (simp; done) | (simp; omega) | omega))) | with_reducible refine Gw.alloc ?_ _ | with_reducible refine Gw.drew ?_ | with_reducible refine Gw.drewN ?_ _ | (refine Gw.trans ?_ (by with_reducible assumption))))⟩

end Go.Proofs.Ytegokhpbjhanbaa