/-
  TouchedBy: the contracts.
-/
import Derived.Test.YtoofpajeogllhaaTchI
import Derived.Test.YtoofpajeogllhaaLaw
namespace Go.Proofs.Ytoofpajeogllhaa
open Go.RowKit

theorem rd_l {A : Option Addr} {c n : Nat} {f : List Int × Bool} {l : List Int} {b : Bool} (h : f = (l, b)) (hn : l.length = n) : Ending.returned (.tuple #[.slice A n c, .bool b]) = .returned (.tuple #[.slice A f.1.length c, .bool f.2]) := by rw [h, ← hn]

set_option maxHeartbeats 4000000 in
theorem i_TouchedBy (A : Option Addr) (c : Nat) (l : List Ed) (n : Int) (w : World) (hl : l.length ≤ 1048576) (hA : Rd w A l) :
    Calls Try.prog 21 #[.slice A l.length c, .int .i64 n] w fun e w' => ∃ A c, e = .returned (.tuple #[.slice A (touchF l n).1.length c, .bool (touchF l n).2]) ∧
      w'.ownsRow w.heap.size 3 1 (.slice A (touchF l n).1.length c) (touchF l n).1.length (flat (touchF l n).1) ∧ Gw w w' := by
  have HA := Lib.hid hA
  clear hA
  go_enter Try.func21, Try.ntmps21
  go_wp2_with fail
  refine (i_areEdits _ _ _ _ hl (HA.out.gw (by (repeat (first | with_reducible exact Gw.refl _ | with_reducible assumption | ((with_reducible refine Gw.set ?_ ?_ _); rotate_left; (focus (first | (simp; done) | (simp; omega) | omega))) | with_reducible refine Gw.alloc ?_ _ | with_reducible refine Gw.drew ?_ | with_reducible refine Gw.drewN ?_ _ | (refine Gw.trans ?_ (by with_reducible assumption))))))).mono ?_
  rintro _ w1 (⟨hp, rfl, hb1⟩ | ⟨hp, rfl, hb1⟩)
  case inr =>
    have hno := Lib.hid (touchF_bad (l := l) (n := n) (fun h => hp h.1))
    clear hp
    go_wp2_with fail
    go_ret2
    exact ⟨none, 0, ret_lb (A := none) (c := 0) hno.out, by rw [hno.out]; exact World.ownsRow_nil _ _ _ _, by (repeat (first | with_reducible exact Gw.refl _ | with_reducible assumption | ((with_reducible refine Gw.set ?_ ?_ _); rotate_left; (focus (first | (simp; done) | (simp; omega) | omega))) | with_reducible refine Gw.alloc ?_ _ | with_reducible refine Gw.drew ?_ | with_reducible refine Gw.drewN ?_ _ | (refine Gw.trans ?_ (by with_reducible assumption))))⟩
  have HE := Lib.hid hp
  clear hp
  have cbox : w1.cell? ⟨w.heap.size, 0, none⟩ = some (.int .i64 n) := box_cell hb1 rfl
  have hz1 := hb1.size
  (try simp at hz1)
  have hG1 : Gw w w1 := by (repeat (first | with_reducible exact Gw.refl _ | with_reducible assumption | ((with_reducible refine Gw.set ?_ ?_ _); rotate_left; (focus (first | (simp; done) | (simp; omega) | omega))) | with_reducible refine Gw.alloc ?_ _ | with_reducible refine Gw.drew ?_ | with_reducible refine Gw.drewN ?_ _ | (refine Gw.trans ?_ (by with_reducible assumption))))
  go_wp2_with (first | (go_at_call 34; refine (i_isEditor _ _).mono ?_; rintro e w' (⟨hp, rfl, rfl⟩ | ⟨hp, rfl, rfl⟩)))
  case' _ => skip
  rotate_left
  · have hno := Lib.hid (touchF_bad (l := l) (n := n) (fun h => hp h.2))
    clear hp
    go_ret2
    exact ⟨none, 0, ret_lb (A := none) (c := 0) hno.out, by rw [hno.out]; exact World.ownsRow_nil _ _ _ _, by (repeat (first | with_reducible exact Gw.refl _ | with_reducible assumption | ((with_reducible refine Gw.set ?_ ?_ _); rotate_left; (focus (first | (simp; done) | (simp; omega) | omega))) | with_reducible refine Gw.alloc ?_ _ | with_reducible refine Gw.drew ?_ | with_reducible refine Gw.drewN ?_ _ | (refine Gw.trans ?_ (by with_reducible assumption))))⟩
  have hv := Lib.hid (touchF_good ⟨HE.out, hp⟩)
  clear hp
  refine (i_touched _ _ _ _ _ _ hl (HA.out.gw hG1) (by omega) cbox).mono ?_
  rintro _ w2 ⟨A2, c2, rfl, hown, hb2⟩
  obtain ⟨r, hr⟩ : ∃ r, r = tchTo l n 12 := ⟨_, rfl⟩
  rw [← hr] at hown ⊢
  have hv2 : Hid (touchF l n = (r, true)) := by unfold Hid; rw [hv.out, hr]
  clear hr
  go_wp2_with fail
  go_ret2
  exact ⟨A2, c2, ret_lb hv2.out, by rw [hv2.out]; exact own_lower hown hG1.size, by (repeat (first | with_reducible exact Gw.refl _ | with_reducible assumption | ((with_reducible refine Gw.set ?_ ?_ _); rotate_left; (focus (first | (simp; done) | (simp; omega) | omega))) | with_reducible refine Gw.alloc ?_ _ | with_reducible refine Gw.drew ?_ | with_reducible refine Gw.drewN ?_ _ | (refine Gw.trans ?_ (by with_reducible assumption))))⟩

end Go.Proofs.Ytoofpajeogllhaa
