/-
  Hours of a place; what the drawn laws compare with.
-/
import Derived.Test.YtgbgmmdpldekbaaDoorWinP
import Derived.Test.YtgbgmmdpldekbaaDoorTyInt
import Derived.BigRegion
namespace Go.Proofs.YtgbgmmdpldekbaaDoor
open Go.RowKit

theorem hoursS_take {l : List W3} {p : Int} {k : Nat} {x : W3} (hx : l[k]? = some x) : hoursS p (l.take (k + 1)) = hoursS p (l.take k) + (if x.1 = p then x.2.2 - x.2.1 else 0) := by
  rw [List.take_add_one, hx, Option.toList_some, hoursS_append]
  simp [hoursS]
theorem winP_take {l : List W3} (h : ∀ x ∈ l, WinP x.1 x.2.1 x.2.2) (k : Nat) : ∀ x ∈ l.take k, WinP x.1 x.2.1 x.2.2 := fun x hx => h x (List.mem_of_mem_take hx)

set_option maxHeartbeats 4000000 in
set_option maxRecDepth 20000 in
theorem i_HoursOf (A : Option Addr) (cap : Nat) (l : List W3) (p : Int) (w : World) (hl : l.length ≤ 1048576) (hA : Rd w A l) :
    Calls Tryd.prog 35 #[.slice A l.length cap, .int .i64 p] w fun e w' => e = .returned (.tuple #[.int .i64 (hoursV l p).1, .bool (hoursV l p).2]) ∧ Gw w w' := by
  have HA := Lib.hid hA
  clear hA
  go_enter Tryd.func35, Tryd.ntmps35
  go_wp2_with fail
  refine (i_AreWindows _ _ _ _ hl HA.out).mono ?_
  rintro _ w1 (⟨hp, rfl, hb1⟩ | ⟨hp, rfl, hb1⟩)
  case inr =>
    have hno := Lib.hid (hoursV_no (l := l) (p := p) (fun h => hp h.1))
    clear hp
    go_wp2_with fail
    go_ret2
    exact ⟨ret_ib hno.out, by (repeat (first | with_reducible exact Gw.refl _ | with_reducible assumption | ((with_reducible refine Gw.set ?_ ?_ _); rotate_left; (focus (first | (simp; done) | (simp; omega) | omega))) | with_reducible refine Gw.alloc ?_ _ | with_reducible refine Gw.drew ?_ | with_reducible refine Gw.drewN ?_ _ | (refine Gw.trans ?_ (by with_reducible assumption))))⟩
  have HW := Lib.hid hp
  clear hp
  by_cases hR : InR p 1 9
  case neg =>
    have hno := Lib.hid (hoursV_no (l := l) (p := p) (fun h => hR h.2))
    go_wp2_with (first | (go_at_call 64; refine (i_within _ _ _ _).mono ?_; rintro e w' (⟨hp, rfl, rfl⟩ | ⟨hp, rfl, rfl⟩)))
    all_goals first
      | (exfalso; omega)
      | (go_ret2
         exact ⟨ret_ib hno.out, by (repeat (first | with_reducible exact Gw.refl _ | with_reducible assumption | ((with_reducible refine Gw.set ?_ ?_ _); rotate_left; (focus (first | (simp; done) | (simp; omega) | omega))) | with_reducible refine Gw.alloc ?_ _ | with_reducible refine Gw.drew ?_ | with_reducible refine Gw.drewN ?_ _ | (refine Gw.trans ?_ (by with_reducible assumption))))⟩)
  have hv := Lib.hid (hoursV_yes (l := l) (p := p) ⟨HW.out, hR⟩)
  go_wp2_with (first | (go_at_call 64; refine (i_within _ _ _ _).mono ?_; rintro e w' (⟨hp, rfl, rfl⟩ | ⟨hp, rfl, rfl⟩)))
  all_goals first | (exfalso; omega) | skip
  go_loopw [6, 19] (fun s q wr => ∃ (k : Nat) (v : Int), q = .int .i64 k ∧ s = .int .i64 v ∧ k ≤ l.length ∧ Hid (v = hoursS p (l.take k)) ∧ Gw w wr) (fun _ q _ => l.length - (intOf q).toNat)
  case atStart => exact ⟨0, 0, by go_num, by go_num, Nat.zero_le _, rfl, by (repeat (first | with_reducible exact Gw.refl _ | with_reducible assumption | ((with_reducible refine Gw.set ?_ ?_ _); rotate_left; (focus (first | (simp; done) | (simp; omega) | omega))) | with_reducible refine Gw.alloc ?_ _ | with_reducible refine Gw.drew ?_ | with_reducible refine Gw.drewN ?_ _ | (refine Gw.trans ?_ (by with_reducible assumption))))⟩
  case round =>
    obtain ⟨k, v, rfl, rfl, hk, hsum, hgw⟩ := hrel
    by_cases hlt : k < l.length
    · obtain ⟨x, hx⟩ := get_of_lt hlt
      obtain ⟨b, off, rfl, hb, c0, c1, c2⟩ := (HA.out.gw hgw).get3 hx
      have hxp := HW.out.1 x (mem_of_get hx)
      have hbd := hoursS_bd (winP_take HW.out.1 k) p
      rw [← hsum.out, List.length_take] at hbd
      have h20 := HW.out.2.2
      have hst := Lib.hid (hoursS_take (p := p) hx)
      clear hx
      have w1' : IntKind.i64.wrap (x.2.2 - x.2.1) = x.2.2 - x.2.1 := IntWalk.i64_in _ (by omega)
      have w2' : IntKind.i64.wrap (v + (x.2.2 - x.2.1)) = v + (x.2.2 - x.2.1) := IntWalk.i64_in _ (by omega)
      by_cases e : x.1 = p
      · have e1 : (x.1 == p) = true := by simp [e]
        have hnx : Hid (v + (x.2.2 - x.2.1) = hoursS p (l.take (k + 1))) := by unfold Hid; rw [hst.out, if_pos e, ← hsum.out]
        clear e
        go_wp2_with fail
        go_roundw
        case rel => exact ⟨k + 1, _, by go_num, rfl, by omega, hnx, by (repeat (first | with_reducible exact Gw.refl _ | with_reducible assumption | ((with_reducible refine Gw.set ?_ ?_ _); rotate_left; (focus (first | (simp; done) | (simp; omega) | omega))) | with_reducible refine Gw.alloc ?_ _ | with_reducible refine Gw.drew ?_ | with_reducible refine Gw.drewN ?_ _ | (refine Gw.trans ?_ (by with_reducible assumption))))⟩
        case measure => simp [intOf]; omega
      · have e1 : (x.1 == p) = false := by simp [e]
        have hnx : Hid (v = hoursS p (l.take (k + 1))) := by unfold Hid; rw [hst.out, if_neg e, ← hsum.out]; omega
        clear e
        go_wp2_with fail
        go_roundw
        case rel => exact ⟨k + 1, v, by go_num, by go_num, by omega, hnx, by (repeat (first | with_reducible exact Gw.refl _ | with_reducible assumption | ((with_reducible refine Gw.set ?_ ?_ _); rotate_left; (focus (first | (simp; done) | (simp; omega) | omega))) | with_reducible refine Gw.alloc ?_ _ | with_reducible refine Gw.drew ?_ | with_reducible refine Gw.drewN ?_ _ | (refine Gw.trans ?_ (by with_reducible assumption))))⟩
        case measure => simp [intOf]; omega
    · obtain rfl : k = l.length := by omega
      have hfin : Hid (hoursV l p = (v, true)) := by unfold Hid; rw [hv.out, hsum.out, List.take_length]
      go_wp2_with fail
      go_ret2
      exact ⟨ret_ib hfin.out, hgw⟩

set_option maxHeartbeats 2000000 in
theorem l_sameInts (A B : Option Addr) (c d : Nat) (l : List Int) (w : World) (hl : l.length ≤ 1048576) (hA : Rd w A l) (hB : Rd w B l) :
    Calls Tryd.prog 28 #[.slice A l.length c, .slice B l.length d] w fun e w' => e = .returned (.bool true) ∧ Gw w w' := by
  go_enter Tryd.func28, Tryd.ntmps28
  go_wp2
  go_loopw [5, 13] (fun _ i wr => ∃ k : Nat, i = .int .i64 k ∧ k ≤ l.length ∧ Gw w wr) (fun _ i _ => l.length - (intOf i).toNat)
  case atStart => exact ⟨0, by go_num, Nat.zero_le _, by (repeat (first | with_reducible exact Gw.refl _ | with_reducible assumption | ((with_reducible refine Gw.set ?_ ?_ _); rotate_left; (focus (first | (simp; done) | (simp; omega) | omega))) | with_reducible refine Gw.alloc ?_ _ | with_reducible refine Gw.drew ?_ | with_reducible refine Gw.drewN ?_ _ | (refine Gw.trans ?_ (by with_reducible assumption))))⟩
  case round =>
    obtain ⟨k, rfl, hk, hgw⟩ := hrel
    by_cases hlt : k < l.length
    · obtain ⟨x, hx⟩ := get_of_lt hlt
      obtain ⟨b, off, rfl, hb, c0⟩ := (hA.gw hgw).get1 hx
      obtain ⟨b', off', rfl, hb', d0⟩ := (hB.gw hgw).get1 hx
      have Hx : Hid (l[k]? = some x) := hx; clear hx
      have hkz : (0 : Int) ≤ (k : Int) := by omega
      have hkl : (k : Int) < (l.length : Int) := by omega
      go_wp2_with (first | go_region)
      all_goals
        go_roundw
        case rel => exact ⟨k + 1, by go_num, by omega, by (repeat (first | with_reducible exact Gw.refl _ | with_reducible assumption | ((with_reducible refine Gw.set ?_ ?_ _); rotate_left; (focus (first | (simp; done) | (simp; omega) | omega))) | with_reducible refine Gw.alloc ?_ _ | with_reducible refine Gw.drew ?_ | with_reducible refine Gw.drewN ?_ _ | (refine Gw.trans ?_ (by with_reducible assumption))))⟩
        case measure => simp [intOf]; omega
    · go_wp2
      go_ret
      exact ⟨rfl, by (repeat (first | with_reducible exact Gw.refl _ | with_reducible assumption | ((with_reducible refine Gw.set ?_ ?_ _); rotate_left; (focus (first | (simp; done) | (simp; omega) | omega))) | with_reducible refine Gw.alloc ?_ _ | with_reducible refine Gw.drew ?_ | with_reducible refine Gw.drewN ?_ _ | (refine Gw.trans ?_ (by with_reducible assumption))))⟩
set_option maxHeartbeats 2000000 in
theorem l_pSameWindows (A B : Option Addr) (c d : Nat) (l : List W3) (w : World) (hl : l.length ≤ 1048576) (hA : Rd w A l) (hB : Rd w B l) :
    Calls Tryd.prog 33 #[.slice A l.length c, .slice B l.length d] w fun e w' => e = .returned (.bool true) ∧ Gw w w' := by
  go_enter Tryd.func33, Tryd.ntmps33
  go_wp2
  go_loopw [5, 13] (fun _ i wr => ∃ k : Nat, i = .int .i64 k ∧ k ≤ l.length ∧ Gw w wr) (fun _ i _ => l.length - (intOf i).toNat)
  case atStart => exact ⟨0, by go_num, Nat.zero_le _, by (repeat (first | with_reducible exact Gw.refl _ | with_reducible assumption | ((with_reducible refine Gw.set ?_ ?_ _); rotate_left; (focus (first | (simp; done) | (simp; omega) | omega))) | with_reducible refine Gw.alloc ?_ _ | with_reducible refine Gw.drew ?_ | with_reducible refine Gw.drewN ?_ _ | (refine Gw.trans ?_ (by with_reducible assumption))))⟩
  case round =>
    obtain ⟨k, rfl, hk, hgw⟩ := hrel
    by_cases hlt : k < l.length
    · obtain ⟨x, hx⟩ := get_of_lt hlt
      obtain ⟨b, off, rfl, hb, c0, c1, c2⟩ := (hA.gw hgw).get3 hx
      obtain ⟨b', off', rfl, hb', d0, d1, d2⟩ := (hB.gw hgw).get3 hx
      have Hx : Hid (l[k]? = some x) := hx; clear hx
      have hkz : (0 : Int) ≤ (k : Int) := by omega
      have hkl : (k : Int) < (l.length : Int) := by omega
      go_wp2_with (first | go_region)
      all_goals
        go_roundw
        case rel => exact ⟨k + 1, by go_num, by omega, by (repeat (first | with_reducible exact Gw.refl _ | with_reducible assumption | ((with_reducible refine Gw.set ?_ ?_ _); rotate_left; (focus (first | (simp; done) | (simp; omega) | omega))) | with_reducible refine Gw.alloc ?_ _ | with_reducible refine Gw.drew ?_ | with_reducible refine Gw.drewN ?_ _ | (refine Gw.trans ?_ (by with_reducible assumption))))⟩
        case measure => simp [intOf]; omega
    · go_wp2
      go_ret
      exact ⟨rfl, by (repeat (first | with_reducible exact Gw.refl _ | with_reducible assumption | ((with_reducible refine Gw.set ?_ ?_ _); rotate_left; (focus (first | (simp; done) | (simp; omega) | omega))) | with_reducible refine Gw.alloc ?_ _ | with_reducible refine Gw.drew ?_ | with_reducible refine Gw.drewN ?_ _ | (refine Gw.trans ?_ (by with_reducible assumption))))⟩
set_option maxHeartbeats 2000000 in
theorem l_pIn (A : Option Addr) (c : Nat) (l : List Int) (n : Int) (w : World) (hl : l.length ≤ 1048576) (hA : Rd w A l) :
    Calls Tryd.prog 29 #[.slice A l.length c, .int .i64 n] w (Tells (n ∈ l) w) := by
  go_enter Tryd.func29, Tryd.ntmps29
  go_wp2
  go_loopw [6, 9] (fun _ i wr => ∃ k : Nat, i = .int .i64 k ∧ k ≤ l.length ∧ Hid (AllTo (fun x : Int => ¬x = n) l k) ∧ Gw w wr) (fun _ i _ => l.length - (intOf i).toNat)
  case atStart => exact ⟨0, by go_num, Nat.zero_le _, AllTo.zero, by (repeat (first | with_reducible exact Gw.refl _ | with_reducible assumption | ((with_reducible refine Gw.set ?_ ?_ _); rotate_left; (focus (first | (simp; done) | (simp; omega) | omega))) | with_reducible refine Gw.alloc ?_ _ | with_reducible refine Gw.drew ?_ | with_reducible refine Gw.drewN ?_ _ | (refine Gw.trans ?_ (by with_reducible assumption))))⟩
  case round =>
    obtain ⟨k, rfl, hk, hall, hgw⟩ := hrel
    by_cases hlt : k < l.length
    · obtain ⟨x, hx⟩ := get_of_lt hlt
      obtain ⟨b, off, rfl, hb, c0⟩ := (hA.gw hgw).get1 hx
      have Hx : Hid (l[k]? = some x) := hx; clear hx
      by_cases e : x = n
      · have e1 : (x == n) = true := by simp [e]
        have hm : Hid (n ∈ l) := by unfold Hid; rw [← e]; exact mem_of_get Hx.out
        clear e
        go_wp2_with fail
        go_ret
        exact .inl ⟨hm.out, rfl, hgw⟩
      · have e1 : (x == n) = false := by simp [e]
        have hn := Lib.hid (AllTo.succ hall.out Hx.out e)
        clear e
        go_wp2_with fail
        go_roundw
        case rel => exact ⟨k + 1, by go_num, by omega, hn, hgw⟩
        case measure => simp [intOf]; omega
    · have hno : Hid (¬n ∈ l) := fun hm => AllTo.all hall.out (by omega) n hm rfl
      go_wp2_with fail
      go_ret
      exact .inr ⟨hno.out, rfl, hgw⟩
theorem l_big (A B : Option Addr) (c d n m : Nat) (w : World) (hn : n ≤ 9223372036854775807) (hm : m ≤ 9223372036854775807) :
    Calls Tryd.prog 24 #[.slice A n c, .slice B m d] w (Tells (¬(n ≤ 1048576 ∧ m ≤ 1048576)  ∨ 1048576 - n < m) w) := by
  by_cases h1 : n ≤ 1048576
  · have hw : IntKind.i64.wrap (1048576 - (n : Int)) = 1048576 - (n : Int) := IntWalk.i64_in _ (by omega)
    have h1z : ¬(1048576 : Int) < (n : Int) := by omega
    by_cases h2 : m ≤ 1048576 - n
    · have h2z : ¬1048576 - (n : Int) < (m : Int) := by omega
      go_enter Tryd.func24, Tryd.ntmps24
      go_wp2_with fail
      all_goals
        go_ret
        exact .inr ⟨by omega, by first | rfl | (simp; omega), by (repeat (first | with_reducible exact Gw.refl _ | with_reducible assumption | ((with_reducible refine Gw.set ?_ ?_ _); rotate_left; (focus (first | (simp; done) | (simp; omega) | omega))) | with_reducible refine Gw.alloc ?_ _ | with_reducible refine Gw.drew ?_ | with_reducible refine Gw.drewN ?_ _ | (refine Gw.trans ?_ (by with_reducible assumption))))⟩
    · have h2z : 1048576 - (n : Int) < (m : Int) := by omega
      go_enter Tryd.func24, Tryd.ntmps24
      go_wp2_with fail
      all_goals
        go_ret
        exact .inl ⟨by omega, by first | rfl | (simp; omega), by (repeat (first | with_reducible exact Gw.refl _ | with_reducible assumption | ((with_reducible refine Gw.set ?_ ?_ _); rotate_left; (focus (first | (simp; done) | (simp; omega) | omega))) | with_reducible refine Gw.alloc ?_ _ | with_reducible refine Gw.drew ?_ | with_reducible refine Gw.drewN ?_ _ | (refine Gw.trans ?_ (by with_reducible assumption))))⟩
  · have h1z : (1048576 : Int) < (n : Int) := by omega
    go_enter Tryd.func24, Tryd.ntmps24
    go_wp2_with fail
    all_goals
      go_ret
      exact .inl ⟨by omega, by first | rfl | (simp; omega), by (repeat (first | with_reducible exact Gw.refl _ | with_reducible assumption | ((with_reducible refine Gw.set ?_ ?_ _); rotate_left; (focus (first | (simp; done) | (simp; omega) | omega))) | with_reducible refine Gw.alloc ?_ _ | with_reducible refine Gw.drew ?_ | with_reducible refine Gw.drewN ?_ _ | (refine Gw.trans ?_ (by with_reducible assumption))))⟩
end Go.Proofs.YtgbgmmdpldekbaaDoor
