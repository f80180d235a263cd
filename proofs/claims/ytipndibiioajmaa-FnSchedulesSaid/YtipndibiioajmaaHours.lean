/-
  The end of booked ones, the hours of a section.
-/
import Derived.Test.YtipndibiioajmaaBook
namespace Go.Proofs.Ytipndibiioajmaa
open Go.RowKit

def endF : List (Int × Int × Int × Int) → Int := fun l => l.foldl (fun m x => max m x.2.2.2) 0
theorem endF_snoc (l : List (Int × Int × Int × Int)) (x : (Int × Int × Int × Int)) : endF (l ++ [x]) = max (endF l) x.2.2.2 := by simp [endF]
def sumH (s : Int) : List (Int × Int × Int × Int) → Int := fun l => l.foldl (fun m x => if x.1 = s then m + (x.2.2.2 - x.2.2.1) else m) 0
theorem sumH_snoc (s : Int) (l : List (Int × Int × Int × Int)) (x : (Int × Int × Int × Int)) : sumH s (l ++ [x]) = if x.1 = s then sumH s l + (x.2.2.2 - x.2.2.1) else sumH s l := by simp [sumH]
open Classical in
noncomputable def schedEnd (l : List (Int × Int × Int × Int)) : Int × Bool := if BookP l then (endF l, true) else (0, false)
open Classical in
noncomputable def secHours (l : List (Int × Int × Int × Int)) (s : Int) : Int × Bool := if BookP l ∧ InR s 1 9 then (sumH s l, true) else (0, false)

set_option maxHeartbeats 1000000 in
theorem s_reEnd (A : Option Addr) (cap : Nat) (l : List (Int × Int × Int × Int)) (w : World) (hl : l.length ≤ 1048576) (hA : Rd w A l) :
    Calls Try.prog 63 #[.slice A l.length cap] w fun e w' => e = .returned (.int .i64 (endF l)) ∧ Gw w w' := by
  go_enter Try.func63, Try.ntmps63
  go_wp2_with fail
  go_loopw [3, 8] (fun s i wr => ∃ (k : Nat) (q : Int), i = .int .i64 k ∧ k ≤ l.length ∧ s = .int .i64 q ∧ (True) ∧ Hid (q = endF (l.take k)) ∧ Gw w wr) (fun _ i _ => l.length - (intOf i).toNat)
  case atStart => exact ⟨0, 0, by go_num, Nat.zero_le _, by go_num, by trivial, rfl, by (repeat (first | with_reducible exact Gw.refl _ | with_reducible assumption | ((with_reducible refine Gw.set ?_ ?_ _); rotate_left; (focus (first | (simp; done) | (simp; omega) | omega))) | with_reducible refine Gw.alloc ?_ _ | with_reducible refine Gw.drew ?_ | with_reducible refine Gw.drewN ?_ _ | (refine Gw.trans ?_ (by with_reducible assumption))))⟩
  case round =>
    obtain ⟨k, q, rfl, hk, rfl, hbd, hs, hgw⟩ := hrel
    by_cases hlt : k < l.length
    · obtain ⟨x, hx⟩ := get_of_lt hlt
      obtain ⟨b, off, rfl, hb, c0, c1, c2, c3⟩ := (hA.gw hgw).get4 hx
      have Hx := Lib.hid hx
      clear hx
      by_cases hC0 : x.2.2.2 ≤ q
      · have Hn : Hid (q = endF (l.take (k + 1))) := by unfold Hid; rw [take_succ_of Hx.out, endF_snoc, ← hs.out, Int.max_eq_left hC0]
        go_wp2_with (first | (go_at_call 77; refine (s_l1Most _ _ _).mono ?_; rintro e w' ⟨rfl, rfl⟩))
        go_roundw
        case rel => exact ⟨k + 1, q, by go_num, by omega, by go_num, by trivial, Hn, by (repeat (first | with_reducible exact Gw.refl _ | with_reducible assumption | ((with_reducible refine Gw.set ?_ ?_ _); rotate_left; (focus (first | (simp; done) | (simp; omega) | omega))) | with_reducible refine Gw.alloc ?_ _ | with_reducible refine Gw.drew ?_ | with_reducible refine Gw.drewN ?_ _ | (refine Gw.trans ?_ (by with_reducible assumption))))⟩
        case measure => simp [intOf]; omega
      have hmx : max q x.2.2.2 = x.2.2.2 := Int.max_eq_right (by omega)
      have Hn : Hid (x.2.2.2 = endF (l.take (k + 1))) := by unfold Hid; rw [take_succ_of Hx.out, endF_snoc, ← hs.out, hmx]
      go_wp2_with (first | (go_at_call 77; refine (s_l1Most _ _ _).mono ?_; rintro e w' ⟨rfl, rfl⟩))
      go_roundw
      case rel => exact ⟨k + 1, x.2.2.2, by go_num, by omega, by go_num, by trivial, Hn, by (repeat (first | with_reducible exact Gw.refl _ | with_reducible assumption | ((with_reducible refine Gw.set ?_ ?_ _); rotate_left; (focus (first | (simp; done) | (simp; omega) | omega))) | with_reducible refine Gw.alloc ?_ _ | with_reducible refine Gw.drew ?_ | with_reducible refine Gw.drewN ?_ _ | (refine Gw.trans ?_ (by with_reducible assumption))))⟩
      case measure => simp [intOf]; omega
    · have hfin : Hid (endF l = q) := by unfold Hid; rw [hs.out, List.take_of_length_le (by omega)]
      go_wp2_with fail
      go_ret
      exact ⟨ret_int hfin.out.symm, by (repeat (first | with_reducible exact Gw.refl _ | with_reducible assumption | ((with_reducible refine Gw.set ?_ ?_ _); rotate_left; (focus (first | (simp; done) | (simp; omega) | omega))) | with_reducible refine Gw.alloc ?_ _ | with_reducible refine Gw.drew ?_ | with_reducible refine Gw.drewN ?_ _ | (refine Gw.trans ?_ (by with_reducible assumption))))⟩

set_option maxHeartbeats 1000000 in
theorem i_scheduleEnd (A : Option Addr) (cap : Nat) (l : List (Int × Int × Int × Int)) (w : World) (hl : l.length ≤ 1048576) (hA : Rd w A l) :
    Calls Try.prog 46 #[.slice A l.length cap] w fun e w' => e = .returned (.int .i64 (endF l)) ∧ Gw w w' := by
  go_enter Try.func46, Try.ntmps46
  go_wp2_with fail
  go_loopw [3, 8] (fun s i wr => ∃ (k : Nat) (q : Int), i = .int .i64 k ∧ k ≤ l.length ∧ s = .int .i64 q ∧ (True) ∧ Hid (q = endF (l.take k)) ∧ Gw w wr) (fun _ i _ => l.length - (intOf i).toNat)
  case atStart => exact ⟨0, 0, by go_num, Nat.zero_le _, by go_num, by trivial, rfl, by (repeat (first | with_reducible exact Gw.refl _ | with_reducible assumption | ((with_reducible refine Gw.set ?_ ?_ _); rotate_left; (focus (first | (simp; done) | (simp; omega) | omega))) | with_reducible refine Gw.alloc ?_ _ | with_reducible refine Gw.drew ?_ | with_reducible refine Gw.drewN ?_ _ | (refine Gw.trans ?_ (by with_reducible assumption))))⟩
  case round =>
    obtain ⟨k, q, rfl, hk, rfl, hbd, hs, hgw⟩ := hrel
    by_cases hlt : k < l.length
    · obtain ⟨x, hx⟩ := get_of_lt hlt
      obtain ⟨b, off, rfl, hb, c0, c1, c2, c3⟩ := (hA.gw hgw).get4 hx
      have Hx := Lib.hid hx
      clear hx
      by_cases hC0 : x.2.2.2 ≤ q
      · have Hn : Hid (q = endF (l.take (k + 1))) := by unfold Hid; rw [take_succ_of Hx.out, endF_snoc, ← hs.out, Int.max_eq_left hC0]
        go_wp2_with (first | fail)
        go_roundw
        case rel => exact ⟨k + 1, q, by go_num, by omega, by go_num, by trivial, Hn, by (repeat (first | with_reducible exact Gw.refl _ | with_reducible assumption | ((with_reducible refine Gw.set ?_ ?_ _); rotate_left; (focus (first | (simp; done) | (simp; omega) | omega))) | with_reducible refine Gw.alloc ?_ _ | with_reducible refine Gw.drew ?_ | with_reducible refine Gw.drewN ?_ _ | (refine Gw.trans ?_ (by with_reducible assumption))))⟩
        case measure => simp [intOf]; omega
      have hmx : max q x.2.2.2 = x.2.2.2 := Int.max_eq_right (by omega)
      have Hn : Hid (x.2.2.2 = endF (l.take (k + 1))) := by unfold Hid; rw [take_succ_of Hx.out, endF_snoc, ← hs.out, hmx]
      go_wp2_with (first | fail)
      go_roundw
      case rel => exact ⟨k + 1, x.2.2.2, by go_num, by omega, by go_num, by trivial, Hn, by (repeat (first | with_reducible exact Gw.refl _ | with_reducible assumption | ((with_reducible refine Gw.set ?_ ?_ _); rotate_left; (focus (first | (simp; done) | (simp; omega) | omega))) | with_reducible refine Gw.alloc ?_ _ | with_reducible refine Gw.drew ?_ | with_reducible refine Gw.drewN ?_ _ | (refine Gw.trans ?_ (by with_reducible assumption))))⟩
      case measure => simp [intOf]; omega
    · have hfin : Hid (endF l = q) := by unfold Hid; rw [hs.out, List.take_of_length_le (by omega)]
      go_wp2_with fail
      go_ret
      exact ⟨ret_int hfin.out.symm, by (repeat (first | with_reducible exact Gw.refl _ | with_reducible assumption | ((with_reducible refine Gw.set ?_ ?_ _); rotate_left; (focus (first | (simp; done) | (simp; omega) | omega))) | with_reducible refine Gw.alloc ?_ _ | with_reducible refine Gw.drew ?_ | with_reducible refine Gw.drewN ?_ _ | (refine Gw.trans ?_ (by with_reducible assumption))))⟩

set_option maxHeartbeats 400000 in
theorem s_ScheduleEnd (A : Option Addr) (c : Nat) (l : List (Int × Int × Int × Int)) (w : World) (hl : l.length ≤ 1048576) (hA : Rd w A l) (hlc : l.length ≤ c) :
    Calls Try.prog 36 #[.slice A l.length c] w fun e w' => e = .returned (.tuple #[.int .i64 (schedEnd l).1, .bool (schedEnd l).2]) ∧ Gw w w' := by
  go_enter Try.func36, Try.ntmps36
  go_wp2_with (first | (go_at_call 56; refine (s_reBooked _ _ _ _ hl hA hlc).mono ?_; rintro e w' (⟨hp, rfl, hb⟩ | ⟨hp, rfl, hb⟩) <;> (have HP := Lib.hid hp; clear hp; have hA1 := hA.gw hb)) | (go_at_call 63; refine (s_reEnd _ _ _ _ hl (by assumption)).mono ?_; rintro e w' ⟨rfl, hb⟩))
  all_goals
    go_ret2
    exact ⟨ret_ib (f := schedEnd l) (by unfold schedEnd; first | rw [if_pos HP.out] | rw [if_neg HP.out]), by (repeat (first | with_reducible exact Gw.refl _ | with_reducible assumption | ((with_reducible refine Gw.set ?_ ?_ _); rotate_left; (focus (first | (simp; done) | (simp; omega) | omega))) | with_reducible refine Gw.alloc ?_ _ | with_reducible refine Gw.drew ?_ | with_reducible refine Gw.drewN ?_ _ | (refine Gw.trans ?_ (by with_reducible assumption))))⟩

set_option maxHeartbeats 400000 in
theorem i_ScheduleEnd (A : Option Addr) (c : Nat) (l : List (Int × Int × Int × Int)) (w : World) (hl : l.length ≤ 1048576) (hA : Rd w A l) (hlc : l.length ≤ c) :
    Calls Try.prog 34 #[.slice A l.length c] w fun e w' => e = .returned (.tuple #[.int .i64 (schedEnd l).1, .bool (schedEnd l).2]) ∧ Gw w w' := by
  go_enter Try.func34, Try.ntmps34
  go_wp2_with (first | (go_at_call 37; refine (i_AreBooked _ _ _ _ hl hA hlc).mono ?_; rintro e w' (⟨hp, rfl, hb⟩ | ⟨hp, rfl, hb⟩) <;> (have HP := Lib.hid hp; clear hp; have hA1 := hA.gw hb)) | (go_at_call 46; refine (i_scheduleEnd _ _ _ _ hl (by assumption)).mono ?_; rintro e w' ⟨rfl, hb⟩))
  all_goals
    go_ret2
    exact ⟨ret_ib (f := schedEnd l) (by unfold schedEnd; first | rw [if_pos HP.out] | rw [if_neg HP.out]), by (repeat (first | with_reducible exact Gw.refl _ | with_reducible assumption | ((with_reducible refine Gw.set ?_ ?_ _); rotate_left; (focus (first | (simp; done) | (simp; omega) | omega))) | with_reducible refine Gw.alloc ?_ _ | with_reducible refine Gw.drew ?_ | with_reducible refine Gw.drewN ?_ _ | (refine Gw.trans ?_ (by with_reducible assumption))))⟩

end Go.Proofs.Ytipndibiioajmaa
