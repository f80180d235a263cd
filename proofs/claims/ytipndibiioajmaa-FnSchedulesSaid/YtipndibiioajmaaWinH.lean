/-
  Hours of a place; what the drawn laws compare with.
-/
import Derived.Test.YtipndibiioajmaaWinP
import Derived.Test.YtipndibiioajmaaTyInt
import Derived.BigRegion
namespace Go.Proofs.Ytipndibiioajmaa
open Go.RowKit

theorem hoursS_take {l : List W3} {p : Int} {k : Nat} {x : W3} (hx : l[k]? = some x) : hoursS p (l.take (k + 1)) = hoursS p (l.take k) + (if x.1 = p then x.2.2 - x.2.1 else 0) := by
  rw [List.take_add_one, hx, Option.toList_some, hoursS_append]
  simp [hoursS]
theorem winP_take {l : List W3} (h : ∀ x ∈ l, WinP x.1 x.2.1 x.2.2) (k : Nat) : ∀ x ∈ l.take k, WinP x.1 x.2.1 x.2.2 := fun x hx => h x (List.mem_of_mem_take hx)

set_option maxHeartbeats 4000000 in
set_option maxRecDepth 20000 in
theorem i_HoursOf (A : Option Addr) (cap : Nat) (l : List W3) (p : Int) (w : World) (hl : l.length ≤ 1048576) (hA : Rd w A l) :
    Calls Try.prog 29 #[.slice A l.length cap, .int .i64 p] w fun e w' => e = .returned (.tuple #[.int .i64 (hoursV l p).1, .bool (hoursV l p).2]) ∧ Gw w w' := by
  have HA := Lib.hid hA
  clear hA
  go_enter Try.func29, Try.ntmps29
  go_wp2_with fail
  refine (i_AreWindows _ _ _ _ hl HA.out).mono ?_
  rintro _ w1 (⟨hp, rfl, hb1⟩ | ⟨hp, rfl, hb1⟩)
  case inr =>
    have hno := Lib.hid (hoursV_no (l := l) (p := p) (fun h => hp h.1))
    clear hp
    go_wp2_with fail
    go_ret2
    exact ⟨ret_ib hno.out, by (repeat (first | with_reducible exact Gw.refl _ | with_reducible assumption | ((with_reducible refine Gw.set ?_ ?_ _); rotate_left; (focus (first | (simp; done) | (simp; omega) | omega))) | with_reducible refine Gw.alloc ?_ _ | with_reducible refine Gw.drew ?_ | with_reducible refine Gw.drewN ?_ _ | (refine Gw.trans ?_ (by with_reducible assumption))))⟩
  have HW := Lib.hid hp
  clear hp
  by_cases hR : InR p 1 9
  case neg =>
    have hno := Lib.hid (hoursV_no (l := l) (p := p) (fun h => hR h.2))
    go_wp2_with (first | (go_at_call 58; refine (i_within _ _ _ _).mono ?_; rintro e w' (⟨hp, rfl, rfl⟩ | ⟨hp, rfl, rfl⟩)))
    all_goals first
      | (exfalso; omega)
      | (go_ret2
         exact ⟨ret_ib hno.out, by (repeat (first | with_reducible exact Gw.refl _ | with_reducible assumption | ((with_reducible refine Gw.set ?_ ?_ _); rotate_left; (focus (first | (simp; done) | (simp; omega) | omega))) | with_reducible refine Gw.alloc ?_ _ | with_reducible refine Gw.drew ?_ | with_reducible refine Gw.drewN ?_ _ | (refine Gw.trans ?_ (by with_reducible assumption))))⟩)
  have hv := Lib.hid (hoursV_yes (l := l) (p := p) ⟨HW.out, hR⟩)
  go_wp2_with (first | (go_at_call 58; refine (i_within _ _ _ _).mono ?_; rintro e w' (⟨hp, rfl, rfl⟩ | ⟨hp, rfl, rfl⟩)))
  all_goals first | (exfalso; omega) | skip
  go_loopw [6, 19] (fun s q wr => ∃ (k : Nat) (v : Int), q = .int .i64 k ∧ s = .int .i64 v ∧ k ≤ l.length ∧ Hid (v = hoursS p (l.take k)) ∧ Gw w wr) (fun _ q _ => l.length - (intOf q).toNat)
  case atStart => exact ⟨0, 0, by go_num, by go_num, Nat.zero_le _, rfl, by (repeat (first | with_reducible exact Gw.refl _ | with_reducible assumption | ((with_reducible refine Gw.set ?_ ?_ _); rotate_left; (focus (first | (simp; done) | (simp; omega) | omega))) | with_reducible refine Gw.alloc ?_ _ | with_reducible refine Gw.drew ?_ | with_reducible refine Gw.drewN ?_ _ | (refine Gw.trans ?_ (by with_reducible assumption))))⟩
  case round =>
    obtain ⟨k, v, rfl, rfl, hk, hsum, hgw⟩ := hrel
    by_cases hlt : k < l.length
    · obtain ⟨x, hx⟩ := get_of_lt hlt
      obtain ⟨b, off, rfl, hb, c0, c1, c2⟩ := (HA.out.gw hgw).get3 hx
      have hxp := HW.out.1 x (mem_of_get hx)
      have hbd := hoursS_bd (winP_take HW.out.1 k) p
      rw [← hsum.out, List.length_take] at hbd
      have h20 := HW.out.2.2
      have hst := Lib.hid (hoursS_take (p := p) hx)
      clear hx
      have w1' : IntKind.i64.wrap (x.2.2 - x.2.1) = x.2.2 - x.2.1 := IntWalk.i64_in _ (by omega)
      have w2' : IntKind.i64.wrap (v + (x.2.2 - x.2.1)) = v + (x.2.2 - x.2.1) := IntWalk.i64_in _ (by omega)
      by_cases e : x.1 = p
      · have e1 : (x.1 == p) = true := by simp [e]
        have hnx : Hid (v + (x.2.2 - x.2.1) = hoursS p (l.take (k + 1))) := by unfold Hid; rw [hst.out, if_pos e, ← hsum.out]
        clear e
        go_wp2_with fail
        go_roundw
        case rel => exact ⟨k + 1, _, by go_num, rfl, by omega, hnx, by (repeat (first | with_reducible exact Gw.refl _ | with_reducible assumption | ((with_reducible refine Gw.set ?_ ?_ _); rotate_left; (focus (first | (simp; done) | (simp; omega) | omega))) | with_reducible refine Gw.alloc ?_ _ | with_reducible refine Gw.drew ?_ | with_reducible refine Gw.drewN ?_ _ | (refine Gw.trans ?_ (by with_reducible assumption))))⟩
        case measure => simp [intOf]; omega
      · have e1 : (x.1 == p) = false := by simp [e]
        have hnx : Hid (v = hoursS p (l.take (k + 1))) := by unfold Hid; rw [hst.out, if_neg e, ← hsum.out]; omega
        clear e
        go_wp2_with fail
        go_roundw
        case rel => exact ⟨k + 1, v, by go_num, by go_num, by omega, hnx, by (repeat (first | with_reducible exact Gw.refl _ | with_reducible assumption | ((with_reducible refine Gw.set ?_ ?_ _); rotate_left; (focus (first | (simp; done) | (simp; omega) | omega))) | with_reducible refine Gw.alloc ?_ _ | with_reducible refine Gw.drew ?_ | with_reducible refine Gw.drewN ?_ _ | (refine Gw.trans ?_ (by with_reducible assumption))))⟩
        case measure => simp [intOf]; omega
    · obtain rfl : k = l.length := by omega
      have hfin : Hid (hoursV l p = (v, true)) := by unfold Hid; rw [hv.out, hsum.out, List.take_length]
      go_wp2_with fail
      go_ret2
      exact ⟨ret_ib hfin.out, hgw⟩

set_option maxHeartbeats 4000000 in
set_option maxRecDepth 20000 in
theorem s_HoursOf (A : Option Addr) (cap : Nat) (l : List W3) (p : Int) (w : World) (hl : l.length ≤ 1048576) (hA : Rd w A l) :
    Calls Try.prog 30 #[.slice A l.length cap, .int .i64 p] w fun e w' => e = .returned (.tuple #[.int .i64 (hoursV l p).1, .bool (hoursV l p).2]) ∧ Gw w w' := by
  have HA := Lib.hid hA
  clear hA
  go_enter Try.func30, Try.ntmps30
  go_wp2_with fail
  refine (s_wnGood _ _ _ _ hl HA.out).mono ?_
  rintro _ w1 (⟨hp, rfl, hb1⟩ | ⟨hp, rfl, hb1⟩)
  case inr =>
    have hno := Lib.hid (hoursV_no (l := l) (p := p) (fun h => hp h.1))
    clear hp
    go_wp2_with fail
    go_ret2
    exact ⟨ret_ib hno.out, by (repeat (first | with_reducible exact Gw.refl _ | with_reducible assumption | ((with_reducible refine Gw.set ?_ ?_ _); rotate_left; (focus (first | (simp; done) | (simp; omega) | omega))) | with_reducible refine Gw.alloc ?_ _ | with_reducible refine Gw.drew ?_ | with_reducible refine Gw.drewN ?_ _ | (refine Gw.trans ?_ (by with_reducible assumption))))⟩
  have HW := Lib.hid hp
  clear hp
  by_cases hR : InR p 1 9
  case neg =>
    have hno := Lib.hid (hoursV_no (l := l) (p := p) (fun h => hR h.2))
    go_wp2_with (first | (go_at_call 59; refine (s_wnPlace _ _).mono ?_; rintro e w' (⟨hp, rfl, rfl⟩ | ⟨hp, rfl, rfl⟩)))
    all_goals first
      | (exfalso; omega)
      | (go_ret2
         exact ⟨ret_ib hno.out, by (repeat (first | with_reducible exact Gw.refl _ | with_reducible assumption | ((with_reducible refine Gw.set ?_ ?_ _); rotate_left; (focus (first | (simp; done) | (simp; omega) | omega))) | with_reducible refine Gw.alloc ?_ _ | with_reducible refine Gw.drew ?_ | with_reducible refine Gw.drewN ?_ _ | (refine Gw.trans ?_ (by with_reducible assumption))))⟩)
  have hv := Lib.hid (hoursV_yes (l := l) (p := p) ⟨HW.out, hR⟩)
  go_wp2_with (first | (go_at_call 59; refine (s_wnPlace _ _).mono ?_; rintro e w' (⟨hp, rfl, rfl⟩ | ⟨hp, rfl, rfl⟩)))
  all_goals first | (exfalso; omega) | skip
  go_loopw [6, 19] (fun s q wr => ∃ (k : Nat) (v : Int), q = .int .i64 k ∧ s = .int .i64 v ∧ k ≤ l.length ∧ Hid (v = hoursS p (l.take k)) ∧ Gw w wr) (fun _ q _ => l.length - (intOf q).toNat)
  case atStart => exact ⟨0, 0, by go_num, by go_num, Nat.zero_le _, rfl, by (repeat (first | with_reducible exact Gw.refl _ | with_reducible assumption | ((with_reducible refine Gw.set ?_ ?_ _); rotate_left; (focus (first | (simp; done) | (simp; omega) | omega))) | with_reducible refine Gw.alloc ?_ _ | with_reducible refine Gw.drew ?_ | with_reducible refine Gw.drewN ?_ _ | (refine Gw.trans ?_ (by with_reducible assumption))))⟩
  case round =>
    obtain ⟨k, v, rfl, rfl, hk, hsum, hgw⟩ := hrel
    by_cases hlt : k < l.length
    · obtain ⟨x, hx⟩ := get_of_lt hlt
      obtain ⟨b, off, rfl, hb, c0, c1, c2⟩ := (HA.out.gw hgw).get3 hx
      have hxp := HW.out.1 x (mem_of_get hx)
      have hbd := hoursS_bd (winP_take HW.out.1 k) p
      rw [← hsum.out, List.length_take] at hbd
      have h20 := HW.out.2.2
      have hst := Lib.hid (hoursS_take (p := p) hx)
      clear hx
      have w1' : IntKind.i64.wrap (x.2.2 - x.2.1) = x.2.2 - x.2.1 := IntWalk.i64_in _ (by omega)
      have w2' : IntKind.i64.wrap (v + (x.2.2 - x.2.1)) = v + (x.2.2 - x.2.1) := IntWalk.i64_in _ (by omega)
      by_cases e : x.1 = p
      · have e1 : (x.1 == p) = true := by simp [e]
        have hnx : Hid (v + (x.2.2 - x.2.1) = hoursS p (l.take (k + 1))) := by unfold Hid; rw [hst.out, if_pos e, ← hsum.out]
        clear e
        go_wp2_with fail
        go_roundw
        case rel => exact ⟨k + 1, _, by go_num, rfl, by omega, hnx, by (repeat (first | with_reducible exact Gw.refl _ | with_reducible assumption | ((with_reducible refine Gw.set ?_ ?_ _); rotate_left; (focus (first | (simp; done) | (simp; omega) | omega))) | with_reducible refine Gw.alloc ?_ _ | with_reducible refine Gw.drew ?_ | with_reducible refine Gw.drewN ?_ _ | (refine Gw.trans ?_ (by with_reducible assumption))))⟩
        case measure => simp [intOf]; omega
      · have e1 : (x.1 == p) = false := by simp [e]
        have hnx : Hid (v = hoursS p (l.take (k + 1))) := by unfold Hid; rw [hst.out, if_neg e, ← hsum.out]; omega
        clear e
        go_wp2_with fail
        go_roundw
        case rel => exact ⟨k + 1, v, by go_num, by go_num, by omega, hnx, by (repeat (first | with_reducible exact Gw.refl _ | with_reducible assumption | ((with_reducible refine Gw.set ?_ ?_ _); rotate_left; (focus (first | (simp; done) | (simp; omega) | omega))) | with_reducible refine Gw.alloc ?_ _ | with_reducible refine Gw.drew ?_ | with_reducible refine Gw.drewN ?_ _ | (refine Gw.trans ?_ (by with_reducible assumption))))⟩
        case measure => simp [intOf]; omega
    · obtain rfl : k = l.length := by omega
      have hfin : Hid (hoursV l p = (v, true)) := by unfold Hid; rw [hv.out, hsum.out, List.take_length]
      go_wp2_with fail
      go_ret2
      exact ⟨ret_ib hfin.out, hgw⟩

end Go.Proofs.Ytipndibiioajmaa
