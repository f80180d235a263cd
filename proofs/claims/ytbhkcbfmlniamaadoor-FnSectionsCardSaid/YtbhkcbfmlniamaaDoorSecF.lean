/-
  Draws of sections: what the drawn laws take.
-/
import Derived.Test.YtbhkcbfmlniamaaDoorSecE
namespace Go.Proofs.YtbhkcbfmlniamaaDoor
open Go.RowKit

set_option maxHeartbeats 4000000 in
theorem s_sectionIndex {w0 w : World} {g m n c : Nat} {A : Option Addr} (hC : CurP w0 w g m) (hm : m ≤ 1000000000) (hn : n ≤ 1000) :
    Calls Tryd.prog 32 #[.pointer (some ⟨g, 0, none⟩), .slice A n c] w fun e w' => ∃ v : Int, e = .returned (.int .i64 v) ∧ Tm v ∧ CurP w0 w' g (m + 8) ∧ w.grownBy w' (some g) := by
  have hlt := CurP.lt hC
  go_enter Tryd.func32, Tryd.ntmps32
  go_wp2_with fail
  refine (c_pick (w0 := w0) hC (by omega) (by omega)).mono ?_
  rintro _ w1 ⟨a, rfl, ⟨ha1, ha2, ha3⟩, hC1, hr1⟩
  have ha4 := ha3 (by omega)
  have hd := Int.tdiv_eq_ediv_of_nonneg (b := 15) ha1
  have hw1 : IntKind.i64.wrap (Int.tdiv a 15) = a / 15 := by rw [hd]; exact IntWalk.i64_in _ (by omega)
  have hw1' : IntKind.i64.wrap (a / 15) = a / 15 := IntWalk.i64_in _ (by omega)
  have hw2 : IntKind.i64.wrap ((n : Int) + a / 15) = (n : Int) + a / 15 := IntWalk.i64_in _ (by omega)
  go_wp2_with fail
  refine (c_pick (w0 := w0) hC1 (by omega) (by omega)).mono ?_
  rintro _ w2 ⟨v, rfl, ⟨hv1, hv2, -⟩, hC2, hr2⟩
  go_wp2_with fail
  refine (c_pick (w0 := w0) hC2 (by omega) (by omega)).mono ?_
  rintro _ w3 ⟨b, rfl, ⟨hb1, hb2, hb3⟩, hC3, hr3⟩
  have hb4 := hb3 (by omega)
  have hd2 := Int.tdiv_eq_ediv_of_nonneg (b := 23) hb1
  have hw3 : IntKind.i64.wrap (Int.tdiv b 23) = b / 23 := by rw [hd2]; exact IntWalk.i64_in _ (by omega)
  have hw3' : IntKind.i64.wrap (b / 23) = b / 23 := IntWalk.i64_in _ (by omega)
  have hw4 : IntKind.i64.wrap (v - b / 23) = v - b / 23 := IntWalk.i64_in _ (by omega)
  go_wp2_with fail
  go_ret
  exact ⟨v - b / 23, rfl, by omega, hC3.mono (by omega), grownBy_trans hr1 (grownBy_trans hr2 hr3)⟩
set_option maxHeartbeats 4000000 in
set_option maxRecDepth 20000 in
theorem d_AreSections (A : Option Addr) (cc : Nat) (bs : List UInt8) (w : World) (hl : bs.length ≤ 9223372036854775807) (hr : Rd w A bs) :
    Calls Tryd.prog 43 #[.slice A bs.length cc] w fun e w' => ∃ (l : List Sec) (D : Option Addr) (c : Nat), e = .returned (.slice D l.length c) ∧ SecB l ∧ l.length ≤ 30 ∧ w'.ownsRow w.heap.size 34 3 (.slice D l.length c) l.length (flat l) ∧ Gw w w' := by
  have hC0 := CurP.new (c := cc) hr hl (Gw.refl w)
  go_enter Tryd.func43, Tryd.ntmps43
  go_wp2_with fail
  refine (s_sections (w0 := w) hC0 (by omega)).mono ?_
  rintro _ w1 ⟨l, D, c, rfl, hB, hll, hown, hC1, hr1⟩
  have hz1 : w.heap.size + 1 ≤ w1.heap.size := by have := hr1.size; simpa using this
  have hlt1 := CurP.lt hC1
  have hown1 := own_lower hown (show w.heap.size + 1 ≤ _ by simp)
  go_wp2_with fail
  go_ret
  exact ⟨l, D, c, rfl, hB, hll, own_lower hown1 (by omega), hC1.gw⟩

set_option maxHeartbeats 4000000 in
set_option maxRecDepth 20000 in
theorem d_MembersOf (A : Option Addr) (cc : Nat) (bs : List UInt8) (w : World) (hl : bs.length ≤ 9223372036854775807) (hr : Rd w A bs) :
    Calls Tryd.prog 7 #[.slice A bs.length cc] w fun e w' => ∃ (l : List Sec) (D : Option Addr) (c : Nat) (p : Int), e = .returned (.tuple #[.slice D l.length c, .int .i64 p]) ∧ Tm p ∧ SecB l ∧ l.length ≤ 30 ∧ w'.ownsRow w.heap.size 34 3 (.slice D l.length c) l.length (flat l) ∧ Gw w w' := by
  have hC0 := CurP.new (c := cc) hr hl (Gw.refl w)
  go_enter Tryd.func7, Tryd.ntmps7
  go_wp2_with fail
  refine (s_sections (w0 := w) hC0 (by omega)).mono ?_
  rintro _ w1 ⟨l, D, c, rfl, hB, hll, hown, hC1, hr1⟩
  have hz1 : w.heap.size + 1 ≤ w1.heap.size := by have := hr1.size; simpa using this
  have hlt1 := CurP.lt hC1
  have hown1 := own_lower hown (show w.heap.size + 1 ≤ _ by simp)
  go_wp2_with fail
  refine (s_sectionIndex (w0 := w) hC1 (by omega) (by omega)).mono ?_
  rintro _ w2 ⟨p, rfl, hpb, hC2, hr2⟩
  have hown2 := own_grow hown1 hr2 (by omega)
  go_wp2_with fail
  go_ret2
  exact ⟨l, D, c, p, rfl, hpb, hB, hll, own_lower hown2 (by omega), hC2.gw⟩

end Go.Proofs.YtbhkcbfmlniamaaDoor
