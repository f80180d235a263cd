/-
  FnBooked: what is left of its text behind some statements.
-/
import Derived.Test.YtgbgmmdpldekbaaDoorDrawI
import Derived.Test.YtgbgmmdpldekbaaDoorWinH
import Derived.Test.YtgbgmmdpldekbaaDoorWinF
import Derived.Test.YtgbgmmdpldekbaaDoorBookP
import Derived.Test.YtgbgmmdpldekbaaDoorTextB
namespace Go.Proofs.YtgbgmmdpldekbaaDoor
open Go.ChangeShapes Go.WideShapes Go.ChangeAt Go.RowKit
set_option linter.unusedVariables false
set_option maxHeartbeats 2000000 in
theorem l_qInts (A B : Option Addr) (c d : Nat) (l : List Int) (w : World) (hl : l.length ≤ 1048576) (hA : Rd w A l) (hB : Rd w B l) :
    Calls Tryd.prog 22 #[.slice A l.length c, .slice B l.length d] w fun e w' => e = .returned (.bool true) ∧ Gw w w' := by
  go_enter Tryd.func22, Tryd.ntmps22
  go_wp2
  go_loopw [5, 13] (fun _ i wr => ∃ k : Nat, i = .int .i64 k ∧ k ≤ l.length ∧ Gw w wr) (fun _ i _ => l.length - (intOf i).toNat)
  case atStart => exact ⟨0, by go_num, Nat.zero_le _, by (repeat (first | with_reducible exact Gw.refl _ | with_reducible assumption | ((with_reducible refine Gw.set ?_ ?_ _); rotate_left; (focus (first | (simp; done) | (simp; omega) | omega))) | with_reducible refine Gw.alloc ?_ _ | with_reducible refine Gw.drew ?_ | with_reducible refine Gw.drewN ?_ _ | (refine Gw.trans ?_ (by with_reducible assumption))))⟩
  case round =>
    obtain ⟨k, rfl, hk, hgw⟩ := hrel
    by_cases hlt : k < l.length
    · obtain ⟨x, hx⟩ := get_of_lt hlt
      obtain ⟨b, off, rfl, hb, c0⟩ := (hA.gw hgw).get1 hx
      obtain ⟨b', off', rfl, hb', d0⟩ := (hB.gw hgw).get1 hx
      have Hx : Hid (l[k]? = some x) := hx; clear hx
      have hkz : (0 : Int) ≤ (k : Int) := by omega
      have hkl : (k : Int) < (l.length : Int) := by omega
      go_wp2_with (first | go_region)
      all_goals
        go_roundw
        case rel => exact ⟨k + 1, by go_num, by omega, by (repeat (first | with_reducible exact Gw.refl _ | with_reducible assumption | ((with_reducible refine Gw.set ?_ ?_ _); rotate_left; (focus (first | (simp; done) | (simp; omega) | omega))) | with_reducible refine Gw.alloc ?_ _ | with_reducible refine Gw.drew ?_ | with_reducible refine Gw.drewN ?_ _ | (refine Gw.trans ?_ (by with_reducible assumption))))⟩
        case measure => simp [intOf]; omega
    · go_wp2
      go_ret
      exact ⟨rfl, by (repeat (first | with_reducible exact Gw.refl _ | with_reducible assumption | ((with_reducible refine Gw.set ?_ ?_ _); rotate_left; (focus (first | (simp; done) | (simp; omega) | omega))) | with_reducible refine Gw.alloc ?_ _ | with_reducible refine Gw.drew ?_ | with_reducible refine Gw.drewN ?_ _ | (refine Gw.trans ?_ (by with_reducible assumption))))⟩
set_option maxHeartbeats 2000000 in
theorem l_qHas (A : Option Addr) (c : Nat) (l : List Int) (n : Int) (w : World) (hl : l.length ≤ 1048576) (hA : Rd w A l) :
    Calls Tryd.prog 23 #[.slice A l.length c, .int .i64 n] w (Tells (n ∈ l) w) := by
  go_enter Tryd.func23, Tryd.ntmps23
  go_wp2
  go_loopw [6, 9] (fun _ i wr => ∃ k : Nat, i = .int .i64 k ∧ k ≤ l.length ∧ Hid (AllTo (fun x : Int => ¬x = n) l k) ∧ Gw w wr) (fun _ i _ => l.length - (intOf i).toNat)
  case atStart => exact ⟨0, by go_num, Nat.zero_le _, AllTo.zero, by (repeat (first | with_reducible exact Gw.refl _ | with_reducible assumption | ((with_reducible refine Gw.set ?_ ?_ _); rotate_left; (focus (first | (simp; done) | (simp; omega) | omega))) | with_reducible refine Gw.alloc ?_ _ | with_reducible refine Gw.drew ?_ | with_reducible refine Gw.drewN ?_ _ | (refine Gw.trans ?_ (by with_reducible assumption))))⟩
  case round =>
    obtain ⟨k, rfl, hk, hall, hgw⟩ := hrel
    by_cases hlt : k < l.length
    · obtain ⟨x, hx⟩ := get_of_lt hlt
      obtain ⟨b, off, rfl, hb, c0⟩ := (hA.gw hgw).get1 hx
      have Hx : Hid (l[k]? = some x) := hx; clear hx
      by_cases e : x = n
      · have e1 : (x == n) = true := by simp [e]
        have hm : Hid (n ∈ l) := by unfold Hid; rw [← e]; exact mem_of_get Hx.out
        clear e
        go_wp2_with fail
        go_ret
        exact .inl ⟨hm.out, rfl, hgw⟩
      · have e1 : (x == n) = false := by simp [e]
        have hn := Lib.hid (AllTo.succ hall.out Hx.out e)
        clear e
        go_wp2_with fail
        go_roundw
        case rel => exact ⟨k + 1, by go_num, by omega, hn, hgw⟩
        case measure => simp [intOf]; omega
    · have hno : Hid (¬n ∈ l) := fun hm => AllTo.all hall.out (by omega) n hm rfl
      go_wp2_with fail
      go_ret
      exact .inr ⟨hno.out, rfl, hgw⟩

theorem sched_facts {W : List W3} {L : List R2} {S : List B4} (h1 : (schedF W L S).2 = true) (h2 : (schedF W L S).1 = true) : WinsP W ∧ RehP L ∧ BookP S ∧ SchedP W L S := by
  by_cases hP : WinsP W ∧ RehP L ∧ BookP S
  · by_cases hS : SchedP W L S
    · exact ⟨hP.1, hP.2.1, hP.2.2, hS⟩
    · rw [schedF_no hP hS] at h2; cases h2
  · rw [schedF_bad hP] at h1; cases h1
theorem secH_facts {c : List B4} {s : Int} (h : (secHours c s).2 = true) : BookP c ∧ (secHours c s).1 = sumH s c := by
  unfold secHours at *
  split at h
  · rename_i hp
    rw [if_pos hp]
    exact ⟨hp.1, rfl⟩
  · cases h
theorem booked_same (a : List B4) : ∃ (txt : ByteArray) (n : Int) (o : Bool), btxF a = (txt, o) ∧ schedEnd a = (n, o) ∧ (o = true ↔ BookP a) ∧ (o = true → BookP a ∧ n = endF a) := by
  by_cases h : BookP a
  · exact ⟨_, _, true, btxF_ok h, by unfold schedEnd; rw [if_pos h], by simp [h], fun _ => ⟨h, rfl⟩⟩
  · exact ⟨_, _, false, btxF_bad h, by unfold schedEnd; rw [if_neg h], by simp [h], fun h => by cases h⟩
end Go.Proofs.YtgbgmmdpldekbaaDoor
