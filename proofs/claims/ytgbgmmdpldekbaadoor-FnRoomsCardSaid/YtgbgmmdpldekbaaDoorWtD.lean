/-
  Draws of the arguments of FirstRoom, CommonWindows, WindowsText, ParseWindows.
-/
import Derived.Test.YtgbgmmdpldekbaaDoorWinE
import Derived.Test.YtgbgmmdpldekbaaDoorSpoilt
import Derived.Test.YtgbgmmdpldekbaaDoorTextW
namespace Go.Proofs.YtgbgmmdpldekbaaDoor
open Go.RowKit

set_option maxHeartbeats 8000000 in
set_option maxRecDepth 20000 in
theorem d_FirstRoom (A : Option Addr) (cc : Nat) (bs : List UInt8) (w : World) (hl : bs.length ≤ 9223372036854775807) (hr : Rd w A bs) :
    Calls Tryd.prog 25 #[.slice A bs.length cc] w fun e w' => ∃ (l : List W3) (D : Option Addr) (c : Nat) (h f : Int), e = .returned (.tuple #[.slice D l.length c, .int .i64 h, .int .i64 f]) ∧ WinB l ∧ l.length ≤ 30 ∧ w'.ownsRow w.heap.size 68 3 (.slice D l.length c) l.length (flat l) ∧ Gw w w' := by
  have hC0 := CurP.new (c := cc) hr hl (Gw.refl w)
  go_enter Tryd.func25, Tryd.ntmps25
  go_wp2_with fail
  refine (s_anyWindows (w0 := w) hC0 (by omega)).mono ?_
  rintro _ w1 ⟨l, D, c, rfl, hB, hll, hown, hC1, hr1⟩
  simp at hown
  go_wp2_with fail
  refine (c_among (w0 := w) hC1 (by omega) (by simp [SmV]; try omega) (by first | rfl | simp) (by omega) (by omega) (by first | rfl | simp)).mono ?_
  rintro _ w2 ⟨r, rfl, ⟨hr1', hr2', hrm⟩, hC2, hr2⟩
  clear hrm
  have hown2 := own_grow (hown.alloc _) hr2 (Nat.lt_succ_self _)
  go_wp2_with fail
  refine (c_among (w0 := w) hC2 (by omega) (by simp [SmV]; try omega) (by first | rfl | simp) (by omega) (by omega) (by first | rfl | simp)).mono ?_
  rintro _ w3 ⟨q, rfl, ⟨hq1, hq2, hqm⟩, hC3, hr3⟩
  clear hqm
  have hown3 := own_grow (hown2.alloc _) hr3 (Nat.lt_succ_self _)
  go_wp2_with fail
  refine (s_weekHour (w0 := w) hC3 (by omega)).mono ?_
  rintro _ w4 ⟨f, rfl, ⟨hf1, hf2⟩, hC4, hr4⟩
  have hown4 := own_grow hown3 hr4 (Nat.lt_succ_self _)
  go_wp2_with fail
  go_ret3
  exact ⟨l, D, c, q, f, rfl, hB, hll, own_lower hown4 (Nat.le_succ _), hC4.gw⟩
set_option maxHeartbeats 8000000 in
set_option maxRecDepth 20000 in
theorem d_CommonWindows (A : Option Addr) (cc : Nat) (bs : List UInt8) (w : World) (hl : bs.length ≤ 9223372036854775807) (hr : Rd w A bs) :
    Calls Tryd.prog 30 #[.slice A bs.length cc] w fun e w' => ∃ (l : List W3) (D : Option Addr) (c : Nat) (m : List W3) (E : Option Addr) (d : Nat), e = .returned (.tuple #[.slice D l.length c, .slice E m.length d]) ∧ l.length ≤ 30 ∧ m.length ≤ 30 ∧ w'.ownsRow w.heap.size 68 3 (.slice D l.length c) l.length (flat l) ∧ w'.ownsRow w.heap.size 68 3 (.slice E m.length d) m.length (flat m) ∧ Gw w w' := by
  have hC0 := CurP.new (c := cc) hr hl (Gw.refl w)
  go_enter Tryd.func30, Tryd.ntmps30
  go_wp2_with fail
  refine (s_anyWindows (w0 := w) hC0 (by omega)).mono ?_
  rintro _ w1 ⟨l, D, c, rfl, hB, hll, hown, hC1, hr1⟩
  simp at hown
  have hz1 := hr1.size
  simp at hz1
  go_wp2_with fail
  refine (s_anyWindows (w0 := w) hC1 (by omega)).mono ?_
  rintro _ w2 ⟨m, E, d, rfl, hB2, hlm, hownm, hC2, hr2⟩
  have hown2 := own_grow hown hr2 (Nat.lt_succ_self _)
  go_wp2_with fail
  go_ret2
  exact ⟨l, D, c, m, E, d, rfl, hll, hlm, own_lower hown2 (Nat.le_succ _), own_lower hownm (by omega), hC2.gw⟩
set_option maxHeartbeats 8000000 in
set_option maxRecDepth 20000 in
theorem d_AreWindows (A : Option Addr) (cc : Nat) (bs : List UInt8) (w : World) (hl : bs.length ≤ 9223372036854775807) (hr : Rd w A bs) :
    Calls Tryd.prog 78 #[.slice A bs.length cc] w fun e w' => ∃ (l : List W3) (D : Option Addr) (c : Nat), e = .returned (.slice D l.length c) ∧ l.length ≤ 30 ∧ w'.ownsRow w.heap.size 68 3 (.slice D l.length c) l.length (flat l) ∧ Gw w w' := by
  have hC0 := CurP.new (c := cc) hr hl (Gw.refl w)
  go_enter Tryd.func78, Tryd.ntmps78
  go_wp2_with fail
  refine (s_anyWindows (w0 := w) hC0 (by omega)).mono ?_
  rintro _ w1 ⟨l, D, c, rfl, hB, hll, hown, hC1, hr1⟩
  simp at hown
  go_wp2_with fail
  go_ret
  exact ⟨l, D, c, rfl, hll, own_lower hown (Nat.le_succ _), hC1.gw⟩
set_option maxHeartbeats 8000000 in
set_option maxRecDepth 20000 in
theorem d_WindowsText (A : Option Addr) (cc : Nat) (bs : List UInt8) (w : World) (hl : bs.length ≤ 9223372036854775807) (hr : Rd w A bs) :
    Calls Tryd.prog 36 #[.slice A bs.length cc] w fun e w' => ∃ (l : List W3) (D : Option Addr) (c : Nat), e = .returned (.slice D l.length c) ∧ l.length ≤ 30 ∧ w'.ownsRow w.heap.size 68 3 (.slice D l.length c) l.length (flat l) ∧ Gw w w' := by
  go_enter Tryd.func36, Tryd.ntmps36
  go_wp2_with fail
  refine (d_AreWindows _ _ _ _ hl hr).mono ?_
  rintro _ w1 ⟨l, D, c, rfl, hll, hown, hb⟩
  go_wp2_with fail
  go_ret
  exact ⟨l, D, c, rfl, hll, hown, hb⟩
set_option maxHeartbeats 8000000 in
set_option maxRecDepth 20000 in
theorem d_ParseWindows (A : Option Addr) (cc : Nat) (bs : List UInt8) (w : World) (hl : bs.length ≤ 9223372036854775807) (hr : Rd w A bs) :
    Calls Tryd.prog 42 #[.slice A bs.length cc] w fun e w' => ∃ t : ByteArray, e = .returned (.string t) ∧ t.size ≤ 1000 ∧ Gw w w' := by
  have hC0 := CurP.new (c := cc) hr hl (Gw.refl w)
  go_enter Tryd.func42, Tryd.ntmps42
  go_wp2_with fail
  refine (s_windows (w0 := w) hC0 (by omega)).mono ?_
  rintro _ w1 ⟨l, D, c, rfl, hT, hll, hown, hC1, hr1⟩
  have rdl : Rd w1 D l := own_rd (α := W3) hown
  have Hp := Lib.hid hT
  clear hown hT
  go_wp2_with fail
  refine (s_wnText _ _ l _ hll rdl Hp.out).mono ?_
  rintro _ w3 ⟨rfl, hb3⟩
  have hC3 := hC1.to hb3
  have hsz : (cat lineW l).size ≤ 560 := by
    have := cat_size (f := lineW) (m := 28) (l := l) (fun x hx => lineW_size (Hp.out x hx)) l.length
    rw [List.take_length] at this
    omega
  generalize cat lineW l = t at *
  clear Hp
  go_wp2_with fail
  refine (s_one w _ w.heap.size _ 3 (by omega) (by omega) hC3).mono ?_
  rintro _ w4 ⟨b, rfl, hC4, hr4⟩
  cases b with
  | false =>
    go_wp2_with fail
    go_ret
    exact ⟨t, rfl, by omega, hC4.gw⟩
  | true =>
    go_wp2_with fail
    refine (s_spoilt (w0 := w) hC4 (by omega) t _ (by omega) (by decide) (by decide)).mono ?_
    rintro _ w5 ⟨t', rfl, hts, hC5, hr5⟩
    go_wp2_with fail
    go_ret
    exact ⟨t', rfl, by omega, hC5.gw⟩
end Go.Proofs.YtgbgmmdpldekbaaDoor
