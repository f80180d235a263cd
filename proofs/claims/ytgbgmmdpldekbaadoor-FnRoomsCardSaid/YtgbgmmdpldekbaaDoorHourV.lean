/-
  The reference's functions over a table of hours.
-/
import Derived.Test.YtgbgmmdpldekbaaDoorHourU
namespace Go.Proofs.YtgbgmmdpldekbaaDoor
open Go.RowKit

set_option maxHeartbeats 4000000 in
theorem s_wnIf (A : Option Addr) (c n : Nat) (l : List W3) (w : World) (hn : l.length = n) (hl : n ≤ 1048576) (hA : Rd w A l) :
    Calls Tryd.prog 75 #[.slice A n c] w fun e w' => ((WinsP l ∧ e = .returned (.tuple #[.slice A n c, .bool true])) ∨ (¬WinsP l ∧ e = .returned (.tuple #[.slice none 0 0, .bool false]))) ∧ Gw w w' := by
  subst hn
  go_enter Tryd.func75, Tryd.ntmps75
  go_wp2_with fail
  refine (s_wnGood _ _ _ _ hl hA).mono ?_
  rintro _ w1 (⟨hp, rfl, hb1⟩ | ⟨hp, rfl, hb1⟩)
  · have HP := Lib.hid hp
    clear hp
    go_wp2_with fail
    go_ret2
    exact ⟨.inl ⟨HP.out, rfl⟩, hb1⟩
  · have HP := Lib.hid hp
    clear hp
    go_wp2_with fail
    go_ret2
    exact ⟨.inr ⟨HP.out, rfl⟩, hb1⟩

end Go.Proofs.YtgbgmmdpldekbaaDoor
