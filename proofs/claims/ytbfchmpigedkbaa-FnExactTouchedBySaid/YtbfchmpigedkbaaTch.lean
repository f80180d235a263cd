/-
  TouchedBy: the contracts.
-/
import Derived.Test.YtbfchmpigedkbaaTchI
import Derived.Test.YtbfchmpigedkbaaLaw
namespace Go.Proofs.Ytbfchmpigedkbaa
open Go.RowKit

theorem rd_l {A : Option Addr} {c n : Nat} {f : List Int × Bool} {l : List Int} {b : Bool} (h : f = (l, b)) (hn : l.length = n) : Ending.returned (.tuple #[.slice A n c, .bool b]) = .returned (.tuple #[.slice A f.1.length c, .bool f.2]) := by rw [h, ← hn]

set_option maxHeartbeats 4000000 in
theorem i_TouchedBy (A : Option Addr) (c : Nat) (l : List Ed) (n : Int) (w : World) (hl : l.length ≤ 1048576) (hA : Rd w A l) :
    Calls Try.prog 9 #[.slice A l.length c, .int .i64 n] w fun e w' => ∃ A c, e = .returned (.tuple #[.slice A (touchF l n).1.length c, .bool (touchF l n).2]) ∧
      w'.ownsRow w.heap.size 3 1 (.slice A (touchF l n).1.length c) (touchF l n).1.length (flat (touchF l n).1) ∧ Gw w w' := by
  have HA := Lib.hid hA
  clear hA
  go_enter Try.func9, Try.ntmps9
  go_wp2_with fail
  refine (i_areEdits _ _ _ _ hl (HA.out.gw (by (repeat (first | with_reducible exact Gw.refl _ | with_reducible assumption | ((with_reducible refine Gw.set ?_ ?_ _); rotate_left; (focus (first | (simp; done) | (simp; omega) | omega))) | with_reducible refine Gw.alloc ?_ _ | with_reducible refine Gw.drew ?_ | with_reducible refine Gw.drewN ?_ _ | (refine Gw.trans ?_ (by with_reducible assumption))))))).mono ?_
  rintro _ w1 (⟨hp, rfl, hb1⟩ | ⟨hp, rfl, hb1⟩)
  case inr =>
    have hno := Lib.hid (touchF_bad (l := l) (n := n) (fun h => hp h.1))
    clear hp
    go_wp2_with fail
    go_ret2
    exact ⟨none, 0, ret_lb (A := none) (c := 0) hno.out, by rw [hno.out]; exact World.ownsRow_nil _ _ _ _, by (repeat (first | with_reducible exact Gw.refl _ | with_reducible assumption | ((with_reducible refine Gw.set ?_ ?_ _); rotate_left; (focus (first | (simp; done) | (simp; omega) | omega))) | with_reducible refine Gw.alloc ?_ _ | with_reducible refine Gw.drew ?_ | with_reducible refine Gw.drewN ?_ _ | (refine Gw.trans ?_ (by with_reducible assumption))))⟩
  have HE := Lib.hid hp
  clear hp
  have cbox : w1.cell? ⟨w.heap.size, 0, none⟩ = some (.int .i64 n) := box_cell hb1 rfl
  have hz1 := hb1.size
  (try simp at hz1)
  have hG1 : Gw w w1 := by (repeat (first | with_reducible exact Gw.refl _ | with_reducible assumption | ((with_reducible refine Gw.set ?_ ?_ _); rotate_left; (focus (first | (simp; done) | (simp; omega) | omega))) | with_reducible refine Gw.alloc ?_ _ | with_reducible refine Gw.drew ?_ | with_reducible refine Gw.drewN ?_ _ | (refine Gw.trans ?_ (by with_reducible assumption))))
  go_wp2_with (first | (go_at_call 29; refine (i_isEditor _ _).mono ?_; rintro e w' (⟨hp, rfl, rfl⟩ | ⟨hp, rfl, rfl⟩)))
  case' _ => skip
  rotate_left
  · have hno := Lib.hid (touchF_bad (l := l) (n := n) (fun h => hp h.2))
    clear hp
    go_ret2
    exact ⟨none, 0, ret_lb (A := none) (c := 0) hno.out, by rw [hno.out]; exact World.ownsRow_nil _ _ _ _, by (repeat (first | with_reducible exact Gw.refl _ | with_reducible assumption | ((with_reducible refine Gw.set ?_ ?_ _); rotate_left; (focus (first | (simp; done) | (simp; omega) | omega))) | with_reducible refine Gw.alloc ?_ _ | with_reducible refine Gw.drew ?_ | with_reducible refine Gw.drewN ?_ _ | (refine Gw.trans ?_ (by with_reducible assumption))))⟩
  have hv := Lib.hid (touchF_good ⟨HE.out, hp⟩)
  clear hp
  refine (i_touched _ _ _ _ _ _ hl (HA.out.gw hG1) (by omega) cbox).mono ?_
  rintro _ w2 ⟨A2, c2, rfl, hown, hb2⟩
  obtain ⟨r, hr⟩ : ∃ r, r = tchTo l n 12 := ⟨_, rfl⟩
  rw [← hr] at hown ⊢
  have hv2 : Hid (touchF l n = (r, true)) := by unfold Hid; rw [hv.out, hr]
  clear hr
  go_wp2_with fail
  go_ret2
  exact ⟨A2, c2, ret_lb hv2.out, by rw [hv2.out]; exact own_lower hown hG1.size, by (repeat (first | with_reducible exact Gw.refl _ | with_reducible assumption | ((with_reducible refine Gw.set ?_ ?_ _); rotate_left; (focus (first | (simp; done) | (simp; omega) | omega))) | with_reducible refine Gw.alloc ?_ _ | with_reducible refine Gw.drew ?_ | with_reducible refine Gw.drewN ?_ _ | (refine Gw.trans ?_ (by with_reducible assumption))))⟩

set_option maxHeartbeats 4000000 in
set_option maxRecDepth 100000 in
theorem s_TouchedBy (A : Option Addr) (c : Nat) (l : List Ed) (n : Int) (w : World) (hl : l.length ≤ 1048576) (hA : Rd w A l) :
    Calls Try.prog 7 #[.slice A l.length c, .int .i64 n] w fun e w' => ∃ A c, e = .returned (.tuple #[.slice A (touchF l n).1.length c, .bool (touchF l n).2]) ∧
      w'.ownsRow w.heap.size 3 1 (.slice A (touchF l n).1.length c) (touchF l n).1.length (flat (touchF l n).1) ∧ Gw w w' := by
  have HA := Lib.hid hA
  clear hA
  go_enter Try.func7, Try.ntmps7
  go_wp2_with fail
  refine (s_edAll _ _ _ _ hl (HA.out.gw (by (repeat (first | with_reducible exact Gw.refl _ | with_reducible assumption | ((with_reducible refine Gw.set ?_ ?_ _); rotate_left; (focus (first | (simp; done) | (simp; omega) | omega))) | with_reducible refine Gw.alloc ?_ _ | with_reducible refine Gw.drew ?_ | with_reducible refine Gw.drewN ?_ _ | (refine Gw.trans ?_ (by with_reducible assumption))))))).mono ?_
  rintro _ w1 (⟨hp, rfl, hb1⟩ | ⟨hp, rfl, hb1⟩)
  case inr =>
    have hno := Lib.hid (touchF_bad (l := l) (n := n) (fun h => hp h.1))
    clear hp
    go_wp2_with fail
    go_ret2
    exact ⟨none, 0, ret_lb (A := none) (c := 0) hno.out, by rw [hno.out]; exact World.ownsRow_nil _ _ _ _, by (repeat (first | with_reducible exact Gw.refl _ | with_reducible assumption | ((with_reducible refine Gw.set ?_ ?_ _); rotate_left; (focus (first | (simp; done) | (simp; omega) | omega))) | with_reducible refine Gw.alloc ?_ _ | with_reducible refine Gw.drew ?_ | with_reducible refine Gw.drewN ?_ _ | (refine Gw.trans ?_ (by with_reducible assumption))))⟩
  have HE := Lib.hid hp
  clear hp
  go_wp2_with (first | (go_at_call 25; refine (s_edEditor _ _).mono ?_; rintro e w' (⟨hp, rfl, rfl⟩ | ⟨hp, rfl, rfl⟩)))
  case' _ => skip
  rotate_left
  · have hno := Lib.hid (touchF_bad (l := l) (n := n) (fun h => hp h.2))
    clear hp
    go_ret2
    exact ⟨none, 0, ret_lb (A := none) (c := 0) hno.out, by rw [hno.out]; exact World.ownsRow_nil _ _ _ _, by (repeat (first | with_reducible exact Gw.refl _ | with_reducible assumption | ((with_reducible refine Gw.set ?_ ?_ _); rotate_left; (focus (first | (simp; done) | (simp; omega) | omega))) | with_reducible refine Gw.alloc ?_ _ | with_reducible refine Gw.drew ?_ | with_reducible refine Gw.drewN ?_ _ | (refine Gw.trans ?_ (by with_reducible assumption))))⟩
  have hv := Lib.hid (touchF_good ⟨HE.out, hp⟩)
  clear hp
  go_loopw [6, 19] (fun o q wr => ∃ (k : Nat) (acc : List Int) (B : Option Addr) (d : Nat), q = .int .i64 k ∧ k ≤ l.length ∧ o = .slice B acc.length d ∧ acc.length ≤ 12 ∧ wr.ownsRow w.heap.size 3 1 (.slice B acc.length d) acc.length (flat acc) ∧ Hid (acc = tchTo (l.take k) n 12) ∧ Gw w wr) (fun _ q _ => l.length - (intOf q).toNat)
  case atStart => exact ⟨0, [], none, 0, by go_num, Nat.zero_le _, rfl, by simp, World.ownsRow_nil _ _ _ _, by unfold Hid tchTo; simp, by (repeat (first | with_reducible exact Gw.refl _ | with_reducible assumption | ((with_reducible refine Gw.set ?_ ?_ _); rotate_left; (focus (first | (simp; done) | (simp; omega) | omega))) | with_reducible refine Gw.alloc ?_ _ | with_reducible refine Gw.drew ?_ | with_reducible refine Gw.drewN ?_ _ | (refine Gw.trans ?_ (by with_reducible assumption))))⟩
  case round =>
    obtain ⟨k, acc, B, d, rfl, hk, rfl, ha1, hown, hacc, hgw⟩ := hrel
    by_cases hlt : k < l.length
    · obtain ⟨x, hx⟩ := get_of_lt hlt
      have hxe := HE.out.1 x (mem_of_get hx)
      obtain ⟨b, off, hAe, hb, c0, c1, c2, c3, c4, c5⟩ := (HA.out.gw hgw).get6 hx
      rw [hAe]
      have Hx := Lib.hid hx
      clear hx hAe
      have hgz := hgw.size
      by_cases hxn : x.1 = n
      · have hst := Lib.hid (tchTo_put Hx.out hxn (by omega))
        have e1 : (x.1 == n) = true := by simp [hxn]
        have Hxn := Lib.hid hxn
        clear hxn
        have hown2 := own_gw hown ((Gw.refl wr).alloc (.cells #[.int .i64 x.1, .int .i64 x.2.1, .int .i64 x.2.2.1, .int .i64 x.2.2.2.1, .int .i64 x.2.2.2.2.1, .int .i64 x.2.2.2.2.2] 50))
        go_wp2_with fail
        refine (s_l1Put _ _ w.heap.size acc _ _ (by omega) hown2 (by simp; omega)).mono ?_
        rintro _ w2 ⟨A2, c2, rfl, hown3, hb2⟩
        obtain ⟨acc2, hacc2⟩ : ∃ a, Hid (a = putL acc x.2.1) := ⟨_, rfl⟩
        rw [← hacc2.out] at hown3 ⊢
        have hst2 : Hid (acc2 = tchTo (l.take (k + 1)) n 12) := by unfold Hid; rw [hacc2.out, hst.out, hacc.out]
        have hlen : acc2.length ≤ 12 := by rw [hst2.out]; exact tchTo_len _ _ _
        go_wp2_with fail
        go_roundw
        case rel => exact ⟨k + 1, acc2, A2, c2, by go_num, by omega, rfl, hlen, hown3, hst2, by (repeat (first | with_reducible exact Gw.refl _ | with_reducible assumption | ((with_reducible refine Gw.set ?_ ?_ _); rotate_left; (focus (first | (simp; done) | (simp; omega) | omega))) | with_reducible refine Gw.alloc ?_ _ | with_reducible refine Gw.drew ?_ | with_reducible refine Gw.drewN ?_ _ | (refine Gw.trans ?_ (by with_reducible assumption))))⟩
        case measure => simp [intOf]; omega
      · have hst := Lib.hid (tchTo_skip (n := n) Hx.out hxn 12)
        have e1 : (x.1 == n) = false := by simp [hxn]
        clear hxn
        go_wp2_with fail
        go_roundw
        case rel => exact ⟨k + 1, acc, B, d, by go_num, by omega, rfl, ha1, hown.alloc _, by unfold Hid; rw [hst.out]; exact hacc.out, by (repeat (first | with_reducible exact Gw.refl _ | with_reducible assumption | ((with_reducible refine Gw.set ?_ ?_ _); rotate_left; (focus (first | (simp; done) | (simp; omega) | omega))) | with_reducible refine Gw.alloc ?_ _ | with_reducible refine Gw.drew ?_ | with_reducible refine Gw.drewN ?_ _ | (refine Gw.trans ?_ (by with_reducible assumption))))⟩
        case measure => simp [intOf]; omega
    · have hfin : Hid (touchF l n = (acc, true)) := by unfold Hid; rw [hv.out, hacc.out, List.take_of_length_le (by omega)]
      go_wp2_with fail
      go_ret2
      exact ⟨B, d, ret_lb hfin.out, by rw [hfin.out]; exact hown, by (repeat (first | with_reducible exact Gw.refl _ | with_reducible assumption | ((with_reducible refine Gw.set ?_ ?_ _); rotate_left; (focus (first | (simp; done) | (simp; omega) | omega))) | with_reducible refine Gw.alloc ?_ _ | with_reducible refine Gw.drew ?_ | with_reducible refine Gw.drewN ?_ _ | (refine Gw.trans ?_ (by with_reducible assumption))))⟩
end Go.Proofs.Ytbfchmpigedkbaa
