/-
  Draws of the arguments of IsSchedule, FreeWindows, BestOrder, AreBooked, WhoRehearses, SectionHours.
-/
import Derived.Test.YtipndibiioajmaaDrawB
namespace Go.Proofs.Ytipndibiioajmaa
open Go.RowKit

set_option maxHeartbeats 8000000 in
set_option maxRecDepth 20000 in
theorem d_FirstSchedule (A : Option Addr) (cc : Nat) (bs : List UInt8) (w : World) (hl : bs.length ≤ 9223372036854775807) (hr : Rd w A bs) :
    Calls Try.prog 49 #[.slice A bs.length cc] w fun e w' => ∃ (W : List W3) (D : Option Addr) (c : Nat) (L : List R2) (E : Option Addr) (d : Nat), e = .returned (.tuple #[.slice D W.length c, .slice E L.length d]) ∧ WinB W ∧ W.length ≤ 30 ∧ (∀ x ∈ L, TmR x) ∧ L.length ≤ 7 ∧ w'.ownsRow w.heap.size 71 3 (.slice D W.length c) W.length (flat W) ∧ w'.ownsRow w.heap.size 59 2 (.slice E L.length d) L.length (flat L) ∧ Gw w w' := by
  have hC0 := CurP.new (c := cc) hr hl (Gw.refl w)
  go_enter Try.func49, Try.ntmps49
  go_wp2_with fail
  refine (s_anyWindows (w0 := w) hC0 (by omega)).mono ?_
  rintro _ w1 ⟨W, D, c, rfl, hB, hll, hown, hC1, hr1⟩
  simp at hown
  have hz1 := hr1.size; (try simp at hz1)
  have hlt1 := CurP.lt hC1
  go_wp2_with fail
  refine (s_rehearsals (w0 := w) hC1 (by omega)).mono ?_
  rintro _ w2 ⟨L, E, d, rfl, hBL, hlL, hownL, hC2, hr2⟩
  have hown2 := own_grow hown hr2 (Nat.lt_succ_self _)
  go_wp2_with fail
  go_ret2
  exact ⟨W, D, c, L, E, d, rfl, hB, hll, hBL, hlL, own_lower hown2 (Nat.le_succ _), own_lower hownL (by omega), hC2.gw⟩

set_option maxHeartbeats 8000000 in
set_option maxRecDepth 20000 in
theorem d_BestOrder (A : Option Addr) (cc : Nat) (bs : List UInt8) (w : World) (hl : bs.length ≤ 9223372036854775807) (hr : Rd w A bs) :
    Calls Try.prog 18 #[.slice A bs.length cc] w fun e w' => ∃ (W : List W3) (D : Option Addr) (c : Nat) (L : List R2) (E : Option Addr) (d : Nat), e = .returned (.tuple #[.slice D W.length c, .slice E L.length d]) ∧ WinB W ∧ W.length ≤ 30 ∧ (∀ x ∈ L, TmR x) ∧ L.length ≤ 7 ∧ w'.ownsRow w.heap.size 71 3 (.slice D W.length c) W.length (flat W) ∧ w'.ownsRow w.heap.size 59 2 (.slice E L.length d) L.length (flat L) ∧ Gw w w' := by
  go_enter Try.func18, Try.ntmps18
  go_wp2_with fail
  refine (d_FirstSchedule _ _ _ _ hl hr).mono ?_
  rintro _ w2 ⟨W, D, c, L, E, d, rfl, hB, hll, hBL, hlL, hown, hownL, hb⟩
  go_wp2_with fail
  go_ret2
  exact ⟨W, D, c, L, E, d, rfl, hB, hll, hBL, hlL, hown, hownL, hb⟩

set_option maxHeartbeats 8000000 in
set_option maxRecDepth 20000 in
theorem d_IsSchedule (A : Option Addr) (cc : Nat) (bs : List UInt8) (w : World) (hl : bs.length ≤ 9223372036854775807) (hr : Rd w A bs) :
    Calls Try.prog 52 #[.slice A bs.length cc] w fun e w' => ∃ (W : List W3) (D : Option Addr) (c : Nat) (L : List R2) (E : Option Addr) (d : Nat) (S : List B4) (F : Option Addr) (f : Nat), e = .returned (.tuple #[.slice D W.length c, .slice E L.length d, .slice F S.length f]) ∧ WinB W ∧ W.length ≤ 30 ∧ (∀ x ∈ L, TmR x) ∧ L.length ≤ 7 ∧ (∀ x ∈ S, TmB x) ∧ S.length ≤ 7 ∧ w'.ownsRow w.heap.size 71 3 (.slice D W.length c) W.length (flat W) ∧ w'.ownsRow w.heap.size 59 2 (.slice E L.length d) L.length (flat L) ∧ w'.ownsRow w.heap.size 88 4 (.slice F S.length f) S.length (flat S) ∧ Gw w w' := by
  have hC0 := CurP.new (c := cc) hr hl (Gw.refl w)
  go_enter Try.func52, Try.ntmps52
  go_wp2_with fail
  refine (s_anyWindows (w0 := w) hC0 (by omega)).mono ?_
  rintro _ w1 ⟨W, D, c, rfl, hB, hll, hown, hC1, hr1⟩
  simp at hown
  have hz1 := hr1.size; (try simp at hz1)
  have hlt1 := CurP.lt hC1
  go_wp2_with fail
  refine (s_rehearsals (w0 := w) hC1 (by omega)).mono ?_
  rintro _ w2 ⟨L, E, d, rfl, hBL, hlL, hownL, hC2, hr2⟩
  have hown2 := own_grow hown hr2 (Nat.lt_succ_self _)
  have hz2 := hr2.size
  have hrW : Rd w2 D W := own_rd hown2
  have hrL : Rd w2 E L := own_rd hownL
  go_wp2_with fail
  refine (s_booked (w0 := w) hC2 (by omega) _ _ W (by omega) hrW _ _ L (by omega) hrL).mono ?_
  rintro _ w3 ⟨S, F, f, rfl, hBS, hlS, hownS, hC3, hr3⟩
  have hown3 := own_grow hown2 hr3 (Nat.lt_succ_self _)
  have hown3L := own_grow hownL hr3 (by omega)
  go_wp2_with fail
  go_ret3
  exact ⟨W, D, c, L, E, d, S, F, f, rfl, hB, hll, hBL, hlL, hBS, hlS, own_lower hown3 (Nat.le_succ _), own_lower hown3L (by omega), own_lower hownS (by omega), hC3.gw⟩

set_option maxHeartbeats 8000000 in
set_option maxRecDepth 20000 in
theorem d_FreeWindows (A : Option Addr) (cc : Nat) (bs : List UInt8) (w : World) (hl : bs.length ≤ 9223372036854775807) (hr : Rd w A bs) :
    Calls Try.prog 21 #[.slice A bs.length cc] w fun e w' => ∃ (W : List W3) (D : Option Addr) (c : Nat) (S : List B4) (F : Option Addr) (f : Nat), e = .returned (.tuple #[.slice D W.length c, .slice F S.length f]) ∧ WinB W ∧ W.length ≤ 30 ∧ (∀ x ∈ S, TmB x) ∧ S.length ≤ 7 ∧ w'.ownsRow w.heap.size 71 3 (.slice D W.length c) W.length (flat W) ∧ w'.ownsRow w.heap.size 88 4 (.slice F S.length f) S.length (flat S) ∧ Gw w w' := by
  go_enter Try.func21, Try.ntmps21
  go_wp2_with fail
  refine (d_IsSchedule _ _ _ _ hl hr).mono ?_
  rintro _ w2 ⟨W, D, c, L, E, d, S, F, f, rfl, hB, hll, hBL, hlL, hBS, hlS, hown, hownL, hownS, hb⟩
  go_wp2_with fail
  go_ret2
  exact ⟨W, D, c, S, F, f, rfl, hB, hll, hBS, hlS, hown, hownS, hb⟩

end Go.Proofs.Ytipndibiioajmaa
