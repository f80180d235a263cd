/-
  Performers of a chart.
-/
import Derived.Test.YtoofpajeogllhaaEdM
namespace Go.Proofs.Ytoofpajeogllhaa
open Go.RowKit

abbrev HasP (l : List (Int × Int)) (i : Int) : Prop := ChartP l ∧ InR i 0 ((l.length : Int) - 1)
set_option maxHeartbeats 2000000 in
theorem s_chHas (A : Option Addr) (c : Nat) (l : List (Int × Int)) (i : Int) (w : World) (hl : l.length ≤ 1048576) (hA : Rd w A l) (hlc : l.length ≤ c) :
    Calls Try.prog 61 #[.slice A l.length c, .int .i64 i] w (Tells (HasP l i) w) := by
  have wl : IntKind.i64.wrap ((l.length : Int) - 1) = (l.length : Int) - 1 := IntWalk.i64_in _ (by omega)
  go_enter Try.func61, Try.ntmps61
  go_wp2_with fail
  refine (s_chGood _ _ _ _ hl hA hlc).mono ?_
  rintro _ w1 (⟨hp, rfl, hb1⟩ | ⟨hp, rfl, hb1⟩)
  case inr =>
    have HN := Lib.hid hp
    clear hp
    go_wp2_with fail
    go_ret
    exact .inr ⟨fun h => HN.out h.1, rfl, hb1⟩
  have H1 := Lib.hid hp
  clear hp
  go_wp2_with fail
  refine (s_l1In _ _ _ _).mono ?_
  rintro _ w2 (⟨hp, rfl, rfl⟩ | ⟨hp, rfl, rfl⟩)
  · have H2 := Lib.hid hp
    clear hp
    go_wp2_with fail
    go_ret
    exact .inl ⟨⟨H1.out, H2.out⟩, rfl, hb1⟩
  · have H2 := Lib.hid hp
    clear hp
    go_wp2_with fail
    go_ret
    exact .inr ⟨fun h => H2.out h.2, rfl, hb1⟩
end Go.Proofs.Ytoofpajeogllhaa
