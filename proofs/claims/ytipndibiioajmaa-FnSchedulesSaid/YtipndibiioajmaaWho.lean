/-
  Who rehearses in a place and an hour.
-/
import Derived.Test.YtipndibiioajmaaBook
import Derived.Test.YtipndibiioajmaaTell
namespace Go.Proofs.Ytipndibiioajmaa
open Go.RowKit

/-- The index of the first element with p, from i on, or -1. -/
def findP {α : Type} (p : α → Bool) : List α → Nat → Int
  | [], _ => -1
  | x :: l, i => if p x = true then (i : Int) else findP p l (i + 1)
theorem findP_cases {α : Type} (p : α → Bool) (l : List α) (i : Nat) : (∃ k x, findP p l i = ((i + k : Nat) : Int) ∧ l[k]? = some x ∧ l.find? p = some x) ∨ (findP p l i = -1 ∧ l.find? p = none) := by
  induction l generalizing i with
  | nil => exact .inr ⟨rfl, rfl⟩
  | cons x l ih =>
    by_cases h : p x = true
    · refine .inl ⟨0, x, ?_, rfl, by simp [h]⟩
      simp [findP, h]
    · rcases ih (i + 1) with ⟨k, y, h1, h2, h3⟩ | ⟨h1, h2⟩
      · refine .inl ⟨k + 1, y, ?_, by simpa using h2, by rw [List.find?_cons, show p x = false by simpa using h]; exact h3⟩
        rw [findP, if_neg h, h1]
        omega
      · exact .inr ⟨by rw [findP, if_neg h, h1], by rw [List.find?_cons, show p x = false by simpa using h]; exact h2⟩
theorem find_take {α : Type} {p : α → Bool} {l : List α} {k : Nat} {x : α} (h : AllTo (fun x => ¬p x = true) l k) (hx : l[k]? = some x) (hp : p x = true) : l.find? p = some x := by
  induction l generalizing k with
  | nil => simp at hx
  | cons y l ih =>
    cases k with
    | zero => simp at hx; subst hx; rw [List.find?_cons, hp]
    | succ k =>
      rw [List.find?_cons, show p y = false by simpa using h 0 y (by omega) rfl]
      exact ih (k := k) (fun i z hi hz => h (i + 1) z (by omega) (by simpa using hz)) (by simpa using hx)
theorem find_none {α : Type} {p : α → Bool} {l : List α} {k : Nat} (h : AllTo (fun x => ¬p x = true) l k) (hk : l.length ≤ k) : l.find? p = none := by
  rw [List.find?_eq_none]
  exact AllTo.all h hk

abbrev atP (n h : Int) : (Int × Int × Int × Int) → Bool := fun x => decide (x.2.1 = n ∧ x.2.2.1 ≤ h ∧ h < x.2.2.2)
def whoR : Option (Int × Int × Int × Int) → Int × Bool
  | some x => (x.1, true)
  | none => (0, false)
open Classical in
noncomputable def whoF (l : List (Int × Int × Int × Int)) (n h : Int) : Int × Bool := if BookP l ∧ InR n 1 9 ∧ InR h 0 167 then whoR (l.find? (atP n h)) else (0, false)

set_option maxHeartbeats 2000000 in
theorem s_reAt (A : Option Addr) (cap : Nat) (l : List (Int × Int × Int × Int)) (n h : Int) (w : World) (hl : l.length ≤ 1048576) (hA : Rd w A l) (hP : ∀ x ∈ l, 0 ≤ x.2.2.2 ∧ x.2.2.2 ≤ 168) :
    Calls Try.prog 57 #[.slice A l.length cap, .int .i64 n, .int .i64 h] w fun e w' => e = .returned (.int .i64 (findP (atP n h) l 0)) ∧ Gw w w' := by
  have HP := Lib.hid hP
  clear hP
  go_enter Try.func57, Try.ntmps57
  go_wp2_with fail
  go_loopw [11] (fun i wr => ∃ k : Nat, i = .int .i64 k ∧ k ≤ l.length ∧ Hid (findP (atP n h) (l.drop k) k = findP (atP n h) l 0) ∧ Gw w wr) (fun i _ => l.length - (intOf i).toNat)
  case atStart => exact ⟨0, by go_num, Nat.zero_le _, by unfold Hid; simp, by (repeat (first | with_reducible exact Gw.refl _ | with_reducible assumption | ((with_reducible refine Gw.set ?_ ?_ _); rotate_left; (focus (first | (simp; done) | (simp; omega) | omega))) | with_reducible refine Gw.alloc ?_ _ | with_reducible refine Gw.drew ?_ | with_reducible refine Gw.drewN ?_ _ | (refine Gw.trans ?_ (by with_reducible assumption))))⟩
  case round =>
    obtain ⟨k, rfl, hk, hq, hgw⟩ := hrel
    by_cases hlt : k < l.length
    · obtain ⟨x, hx⟩ := get_of_lt hlt
      obtain ⟨b, off, rfl, hb, c0, c1, c2, c3⟩ := (hA.gw hgw).get4 hx
      have h0 := HP.out x (mem_of_get hx)
      have hd := Lib.hid (drop_of' hx)
      clear hx
      by_cases h1 : x.2.1 = n
      · have e1 : (x.2.1 == n) = true := by simp [h1]
        go_wp2_with (first | (go_at_call 66; refine (s_l1In _ _ _ _).mono ?_; rintro e w' (⟨hp, rfl, rfl⟩ | ⟨hp, rfl, rfl⟩)))
        · have hfin : Hid (findP (atP n h) l 0 = (k : Int)) := by unfold Hid; rw [← hq.out, hd.out, findP, if_pos (by simp only [decide_eq_true_eq]; omega)]
          go_ret
          exact ⟨ret_int hfin.out.symm, by (repeat (first | with_reducible exact Gw.refl _ | with_reducible assumption | ((with_reducible refine Gw.set ?_ ?_ _); rotate_left; (focus (first | (simp; done) | (simp; omega) | omega))) | with_reducible refine Gw.alloc ?_ _ | with_reducible refine Gw.drew ?_ | with_reducible refine Gw.drewN ?_ _ | (refine Gw.trans ?_ (by with_reducible assumption))))⟩
        · have hn' : Hid (findP (atP n h) (l.drop (k + 1)) (k + 1) = findP (atP n h) l 0) := by unfold Hid; rw [← hq.out, hd.out, findP, if_neg (by simp only [decide_eq_true_eq]; omega)]
          go_roundw
          case rel => exact ⟨k + 1, by go_num, by omega, hn', by (repeat (first | with_reducible exact Gw.refl _ | with_reducible assumption | ((with_reducible refine Gw.set ?_ ?_ _); rotate_left; (focus (first | (simp; done) | (simp; omega) | omega))) | with_reducible refine Gw.alloc ?_ _ | with_reducible refine Gw.drew ?_ | with_reducible refine Gw.drewN ?_ _ | (refine Gw.trans ?_ (by with_reducible assumption))))⟩
          case measure => simp [intOf]; omega
      · have e1 : (x.2.1 == n) = false := by simp [h1]
        have hn' : Hid (findP (atP n h) (l.drop (k + 1)) (k + 1) = findP (atP n h) l 0) := by unfold Hid; rw [← hq.out, hd.out, findP, if_neg (by simp only [decide_eq_true_eq]; omega)]
        go_wp2_with fail
        go_roundw
        case rel => exact ⟨k + 1, by go_num, by omega, hn', by (repeat (first | with_reducible exact Gw.refl _ | with_reducible assumption | ((with_reducible refine Gw.set ?_ ?_ _); rotate_left; (focus (first | (simp; done) | (simp; omega) | omega))) | with_reducible refine Gw.alloc ?_ _ | with_reducible refine Gw.drew ?_ | with_reducible refine Gw.drewN ?_ _ | (refine Gw.trans ?_ (by with_reducible assumption))))⟩
        case measure => simp [intOf]; omega
    · have hfin : Hid (findP (atP n h) l 0 = -1) := by unfold Hid; rw [← hq.out, List.drop_of_length_le (by omega)]; rfl
      go_wp2_with fail
      go_ret
      exact ⟨ret_int hfin.out.symm, by (repeat (first | with_reducible exact Gw.refl _ | with_reducible assumption | ((with_reducible refine Gw.set ?_ ?_ _); rotate_left; (focus (first | (simp; done) | (simp; omega) | omega))) | with_reducible refine Gw.alloc ?_ _ | with_reducible refine Gw.drew ?_ | with_reducible refine Gw.drewN ?_ _ | (refine Gw.trans ?_ (by with_reducible assumption))))⟩

set_option maxHeartbeats 4000000 in
theorem s_WhoRehearses (A : Option Addr) (cap : Nat) (l : List (Int × Int × Int × Int)) (n h : Int) (w : World) (hl : l.length ≤ 1048576) (hA : Rd w A l) (hlc : l.length ≤ cap) :
    Calls Try.prog 31 #[.slice A l.length cap, .int .i64 n, .int .i64 h] w fun e w' => e = .returned (.tuple #[.int .i64 (whoF l n h).1, .bool (whoF l n h).2]) ∧ Gw w w' := by
  go_enter Try.func31, Try.ntmps31
  go_wp2_with fail
  refine (s_reBooked _ _ _ _ hl (hA.gw (by (repeat (first | with_reducible exact Gw.refl _ | with_reducible assumption | ((with_reducible refine Gw.set ?_ ?_ _); rotate_left; (focus (first | (simp; done) | (simp; omega) | omega))) | with_reducible refine Gw.alloc ?_ _ | with_reducible refine Gw.drew ?_ | with_reducible refine Gw.drewN ?_ _ | (refine Gw.trans ?_ (by with_reducible assumption)))))) hlc).mono ?_
  rintro _ w1 (⟨hp, rfl, hb1⟩ | ⟨hp, rfl, hb1⟩)
  case inr =>
    have HP := Lib.hid hp
    clear hp
    go_wp2_with fail
    go_ret2
    exact ⟨ret_ib (f := whoF l n h) (by unfold whoF; rw [if_neg (fun g => by first | exact HP.out g.1 | (have := g.2; omega))]), by (repeat (first | with_reducible exact Gw.refl _ | with_reducible assumption | ((with_reducible refine Gw.set ?_ ?_ _); rotate_left; (focus (first | (simp; done) | (simp; omega) | omega))) | with_reducible refine Gw.alloc ?_ _ | with_reducible refine Gw.drew ?_ | with_reducible refine Gw.drewN ?_ _ | (refine Gw.trans ?_ (by with_reducible assumption))))⟩
  have HP := Lib.hid hp
  clear hp
  have hc1 := hb1.cells; have hf1 := hb1.frozens; have hz1 := hb1.size; (try simp at hz1); (try have hy1 : w.heap.size < w1.heap.size := by omega); (try have hx1 : w.heap.size ≤ w1.heap.size := by omega)
  have hPw : Hid (∀ x ∈ l, 0 ≤ x.2.2.2 ∧ x.2.2.2 ≤ 168) := fun x hx => by have := HP.out.1 x hx; omega

  by_cases hR : InR n 1 9 ∧ InR h 0 167
  case neg =>
    go_wp2_with (first | (go_at_call 59; refine (s_wnPlace _ _).mono ?_; rintro e w' (⟨hp, rfl, rfl⟩ | ⟨hp, rfl, rfl⟩)) | (go_at_call 60; refine (s_wnHour _ _).mono ?_; rintro e w' (⟨hp, rfl, rfl⟩ | ⟨hp, rfl, rfl⟩)))
    all_goals first
      | (go_ret2
         exact ⟨ret_ib (f := whoF l n h) (by unfold whoF; rw [if_neg (fun g => by first | exact HP.out g.1 | (have := g.2; omega))]), by (repeat (first | with_reducible exact Gw.refl _ | with_reducible assumption | ((with_reducible refine Gw.set ?_ ?_ _); rotate_left; (focus (first | (simp; done) | (simp; omega) | omega))) | with_reducible refine Gw.alloc ?_ _ | with_reducible refine Gw.drew ?_ | with_reducible refine Gw.drewN ?_ _ | (refine Gw.trans ?_ (by with_reducible assumption))))⟩)
      | (exfalso; omega)
  have hv : Hid (whoF l n h = whoR (l.find? (atP n h))) := by unfold Hid whoF; rw [if_pos ⟨HP.out, hR⟩]
  rcases findP_cases (atP n h) l 0 with ⟨k, x, h1, h2, h3⟩ | ⟨h1, h3⟩
  · obtain ⟨b, off, rfl, hb, c0, c1, c2, c3⟩ := hA.get4 h2
    have hk : k < l.length := (List.getElem?_eq_some_iff.1 h2).1
    rw [Nat.zero_add] at h1
    have Hq := Lib.hid h1
    have hv2 : Hid (whoF l n h = (x.1, true)) := by unfold Hid; rw [hv.out, h3]; rfl
    have HA := Lib.hid hA
    clear h1 h2 h3 hA
    go_wp2_with (first | (go_at_call 59; refine (s_wnPlace _ _).mono ?_; rintro e w' (⟨hp, rfl, rfl⟩ | ⟨hp, rfl, rfl⟩) ; rotate_left; (exfalso; omega)) | (go_at_call 60; refine (s_wnHour _ _).mono ?_; rintro e w' (⟨hp, rfl, rfl⟩ | ⟨hp, rfl, rfl⟩) ; rotate_left; (exfalso; omega)))
    refine (s_reAt _ _ _ _ _ _ hl (HA.out.gw (by (repeat (first | with_reducible exact Gw.refl _ | with_reducible assumption | ((with_reducible refine Gw.set ?_ ?_ _); rotate_left; (focus (first | (simp; done) | (simp; omega) | omega))) | with_reducible refine Gw.alloc ?_ _ | with_reducible refine Gw.drew ?_ | with_reducible refine Gw.drewN ?_ _ | (refine Gw.trans ?_ (by with_reducible assumption)))))) hPw.out).mono ?_
    rw [Hq.out]
    rintro _ w2 ⟨rfl, hb2⟩
    have hc2 := hb2.cells; have hf2 := hb2.frozens; have hz2 := hb2.size; (try simp at hz2); (try have hy2 : w.heap.size < w2.heap.size := by omega); (try have hx2 : w.heap.size ≤ w2.heap.size := by omega)
    go_wp2_with fail
    refine (s_reAt _ _ _ _ _ _ hl (HA.out.gw (by (repeat (first | with_reducible exact Gw.refl _ | with_reducible assumption | ((with_reducible refine Gw.set ?_ ?_ _); rotate_left; (focus (first | (simp; done) | (simp; omega) | omega))) | with_reducible refine Gw.alloc ?_ _ | with_reducible refine Gw.drew ?_ | with_reducible refine Gw.drewN ?_ _ | (refine Gw.trans ?_ (by with_reducible assumption)))))) hPw.out).mono ?_
    rw [Hq.out]
    rintro _ w3 ⟨rfl, hb3⟩
    have hc3 := hb3.cells; have hf3 := hb3.frozens; have hz3 := hb3.size; (try simp at hz3); (try have hy3 : w.heap.size < w3.heap.size := by omega); (try have hx3 : w.heap.size ≤ w3.heap.size := by omega)
    have hbb1 : b < w1.heap.size := by omega
    have hbb2 : b < w2.heap.size := by omega
    go_wp2_with fail
    go_ret2
    exact ⟨ret_ib (f := whoF l n h) hv2.out, by (repeat (first | with_reducible exact Gw.refl _ | with_reducible assumption | ((with_reducible refine Gw.set ?_ ?_ _); rotate_left; (focus (first | (simp; done) | (simp; omega) | omega))) | with_reducible refine Gw.alloc ?_ _ | with_reducible refine Gw.drew ?_ | with_reducible refine Gw.drewN ?_ _ | (refine Gw.trans ?_ (by with_reducible assumption))))⟩
  · have Hq := Lib.hid h1
    have hv2 : Hid (whoF l n h = (0, false)) := by unfold Hid; rw [hv.out, h3]; rfl
    clear h1 h3
    go_wp2_with (first | (go_at_call 59; refine (s_wnPlace _ _).mono ?_; rintro e w' (⟨hp, rfl, rfl⟩ | ⟨hp, rfl, rfl⟩) ; rotate_left; (exfalso; omega)) | (go_at_call 60; refine (s_wnHour _ _).mono ?_; rintro e w' (⟨hp, rfl, rfl⟩ | ⟨hp, rfl, rfl⟩) ; rotate_left; (exfalso; omega)))
    refine (s_reAt _ _ _ _ _ _ hl (hA.gw (by (repeat (first | with_reducible exact Gw.refl _ | with_reducible assumption | ((with_reducible refine Gw.set ?_ ?_ _); rotate_left; (focus (first | (simp; done) | (simp; omega) | omega))) | with_reducible refine Gw.alloc ?_ _ | with_reducible refine Gw.drew ?_ | with_reducible refine Gw.drewN ?_ _ | (refine Gw.trans ?_ (by with_reducible assumption)))))) hPw.out).mono ?_
    rw [Hq.out]
    rintro _ w2 ⟨rfl, hb2⟩
    go_wp2_with fail
    go_ret2
    exact ⟨ret_ib (f := whoF l n h) hv2.out, by (repeat (first | with_reducible exact Gw.refl _ | with_reducible assumption | ((with_reducible refine Gw.set ?_ ?_ _); rotate_left; (focus (first | (simp; done) | (simp; omega) | omega))) | with_reducible refine Gw.alloc ?_ _ | with_reducible refine Gw.drew ?_ | with_reducible refine Gw.drewN ?_ _ | (refine Gw.trans ?_ (by with_reducible assumption))))⟩

end Go.Proofs.Ytipndibiioajmaa