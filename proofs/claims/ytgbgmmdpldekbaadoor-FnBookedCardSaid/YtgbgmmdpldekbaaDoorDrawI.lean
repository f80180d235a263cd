/-
  Draws of the arguments of IsSchedule, FreeWindows, BestOrder, AreBooked, WhoRehearses, SectionHours.
-/
import Derived.Test.YtgbgmmdpldekbaaDoorDrawB
namespace Go.Proofs.YtgbgmmdpldekbaaDoor
open Go.RowKit

set_option maxHeartbeats 8000000 in
set_option maxRecDepth 20000 in
theorem d_IsSchedule (A : Option Addr) (cc : Nat) (bs : List UInt8) (w : World) (hl : bs.length ≤ 9223372036854775807) (hr : Rd w A bs) :
    Calls Tryd.prog 5 #[.slice A bs.length cc] w fun e w' => ∃ (W : List W3) (D : Option Addr) (c : Nat) (L : List R2) (E : Option Addr) (d : Nat) (S : List B4) (F : Option Addr) (f : Nat), e = .returned (.tuple #[.slice D W.length c, .slice E L.length d, .slice F S.length f]) ∧ WinB W ∧ W.length ≤ 30 ∧ (∀ x ∈ L, TmR x) ∧ L.length ≤ 7 ∧ (∀ x ∈ S, TmB x) ∧ S.length ≤ 7 ∧ w'.ownsRow w.heap.size 68 3 (.slice D W.length c) W.length (flat W) ∧ w'.ownsRow w.heap.size 45 2 (.slice E L.length d) L.length (flat L) ∧ w'.ownsRow w.heap.size 43 4 (.slice F S.length f) S.length (flat S) ∧ Gw w w' := by
  have hC0 := CurP.new (c := cc) hr hl (Gw.refl w)
  go_enter Tryd.func5, Tryd.ntmps5
  go_wp2_with fail
  refine (s_anyWindows (w0 := w) hC0 (by omega)).mono ?_
  rintro _ w1 ⟨W, D, c, rfl, hB, hll, hown, hC1, hr1⟩
  simp at hown
  have hz1 := hr1.size; (try simp at hz1)
  have hlt1 := CurP.lt hC1
  go_wp2_with fail
  refine (s_rehearsals (w0 := w) hC1 (by omega)).mono ?_
  rintro _ w2 ⟨L, E, d, rfl, hBL, hlL, hownL, hC2, hr2⟩
  have hown2 := own_grow hown hr2 (Nat.lt_succ_self _)
  have hz2 := hr2.size
  have hrW : Rd w2 D W := own_rd hown2
  have hrL : Rd w2 E L := own_rd hownL
  go_wp2_with fail
  refine (s_booked (w0 := w) hC2 (by omega) _ _ W (by omega) hrW _ _ L (by omega) hrL).mono ?_
  rintro _ w3 ⟨S, F, f, rfl, hBS, hlS, hownS, hC3, hr3⟩
  have hown3 := own_grow hown2 hr3 (Nat.lt_succ_self _)
  have hown3L := own_grow hownL hr3 (by omega)
  go_wp2_with fail
  go_ret3
  exact ⟨W, D, c, L, E, d, S, F, f, rfl, hB, hll, hBL, hlL, hBS, hlS, own_lower hown3 (Nat.le_succ _), own_lower hown3L (by omega), own_lower hownS (by omega), hC3.gw⟩

set_option maxHeartbeats 8000000 in
set_option maxRecDepth 20000 in
theorem d_AreBooked (A : Option Addr) (cc : Nat) (bs : List UInt8) (w : World) (hl : bs.length ≤ 9223372036854775807) (hr : Rd w A bs) :
    Calls Tryd.prog 53 #[.slice A bs.length cc] w fun e w' => ∃ (S : List B4) (F : Option Addr) (f : Nat), e = .returned (.slice F S.length f) ∧ (∀ x ∈ S, TmB x) ∧ S.length ≤ 7 ∧ w'.ownsRow w.heap.size 43 4 (.slice F S.length f) S.length (flat S) ∧ Gw w w' := by
  go_enter Tryd.func53, Tryd.ntmps53
  go_wp2_with fail
  refine (d_IsSchedule _ _ _ _ hl hr).mono ?_
  rintro _ w2 ⟨W, D, c, L, E, d, S, F, f, rfl, hB, hll, hBL, hlL, hBS, hlS, hown, hownL, hownS, hb⟩
  go_wp2_with fail
  go_ret
  exact ⟨S, F, f, rfl, hBS, hlS, hownS, hb⟩

set_option maxHeartbeats 8000000 in
set_option maxRecDepth 20000 in
theorem d_BookedText (A : Option Addr) (cc : Nat) (bs : List UInt8) (w : World) (hl : bs.length ≤ 9223372036854775807) (hr : Rd w A bs) :
    Calls Tryd.prog 8 #[.slice A bs.length cc] w fun e w' => ∃ (S : List B4) (F : Option Addr) (f : Nat), e = .returned (.slice F S.length f) ∧ (∀ x ∈ S, TmB x) ∧ S.length ≤ 7 ∧ w'.ownsRow w.heap.size 43 4 (.slice F S.length f) S.length (flat S) ∧ Gw w w' := by
  go_enter Tryd.func8, Tryd.ntmps8
  go_wp2_with fail
  refine (d_AreBooked _ _ _ _ hl hr).mono ?_
  rintro _ w2 ⟨S, F, f, rfl, hBS, hlS, hownS, hb⟩
  go_wp2_with fail
  go_ret
  exact ⟨S, F, f, rfl, hBS, hlS, hownS, hb⟩

set_option maxHeartbeats 8000000 in
set_option maxRecDepth 20000 in
theorem d_SectionHours (A : Option Addr) (cc : Nat) (bs : List UInt8) (w : World) (hl : bs.length ≤ 9223372036854775807) (hr : Rd w A bs) :
    Calls Tryd.prog 16 #[.slice A bs.length cc] w fun e w' => ∃ (S : List B4) (F : Option Addr) (f : Nat) (p : Int), e = .returned (.tuple #[.slice F S.length f, .int .i64 p]) ∧ (∀ x ∈ S, TmB x) ∧ S.length ≤ 7 ∧ w'.ownsRow w.heap.size 43 4 (.slice F S.length f) S.length (flat S) ∧ Gw w w' := by
  have hC0 := CurP.new (c := cc) hr hl (Gw.refl w)
  go_enter Tryd.func16, Tryd.ntmps16
  go_wp2_with fail
  refine (d_AreBooked _ _ _ _ hl (hr.gw (by (repeat (first | with_reducible exact Gw.refl _ | with_reducible assumption | ((with_reducible refine Gw.set ?_ ?_ _); rotate_left; (focus (first | (simp; done) | (simp; omega) | omega))) | with_reducible refine Gw.alloc ?_ _ | with_reducible refine Gw.drew ?_ | with_reducible refine Gw.drewN ?_ _ | (refine Gw.trans ?_ (by with_reducible assumption))))))).mono ?_
  rintro _ w1 ⟨S, F, f, rfl, hBS, hlS, hownS, hb⟩
  have hC1 := hC0.to hb
  have hz1 := hb.size
  simp at hownS hz1
  go_wp2_with fail
  refine (c_among (w0 := w) hC1 (by omega) (by simp [SmV]; try omega) (by first | rfl | simp) (by omega) (by omega) (by first | rfl | simp)).mono ?_
  rintro _ w2 ⟨r, rfl, ⟨hr1', hr2', hrm⟩, hC2, hr2⟩
  clear hrm
  have hown2 := own_grow (hownS.alloc _) hr2 (Nat.lt_succ_self _)
  go_wp2_with fail
  refine (c_among (w0 := w) hC2 (by omega) (by simp [SmV]; try omega) (by first | rfl | simp) (by omega) (by omega) (by first | rfl | simp)).mono ?_
  rintro _ w3 ⟨q, rfl, ⟨hq1, hq2, hqm⟩, hC3, hr3⟩
  have hown3 := own_grow (hown2.alloc _) hr3 (Nat.lt_succ_self _)
  go_wp2_with fail
  go_ret2
  exact ⟨S, F, f, q, rfl, hBS, hlS, own_lower hown3 (Nat.le_succ _), hC3.gw⟩

set_option maxHeartbeats 8000000 in
set_option maxRecDepth 20000 in
theorem d_WhoRehearses (A : Option Addr) (cc : Nat) (bs : List UInt8) (w : World) (hl : bs.length ≤ 9223372036854775807) (hr : Rd w A bs) :
    Calls Tryd.prog 13 #[.slice A bs.length cc] w fun e w' => ∃ (S : List B4) (F : Option Addr) (f : Nat) (p h : Int), e = .returned (.tuple #[.slice F S.length f, .int .i64 p, .int .i64 h]) ∧ (∀ x ∈ S, TmB x) ∧ S.length ≤ 7 ∧ w'.ownsRow w.heap.size 43 4 (.slice F S.length f) S.length (flat S) ∧ Gw w w' := by
  have hC0 := CurP.new (c := cc) hr hl (Gw.refl w)
  go_enter Tryd.func13, Tryd.ntmps13
  go_wp2_with fail
  refine (d_AreBooked _ _ _ _ hl (hr.gw (by (repeat (first | with_reducible exact Gw.refl _ | with_reducible assumption | ((with_reducible refine Gw.set ?_ ?_ _); rotate_left; (focus (first | (simp; done) | (simp; omega) | omega))) | with_reducible refine Gw.alloc ?_ _ | with_reducible refine Gw.drew ?_ | with_reducible refine Gw.drewN ?_ _ | (refine Gw.trans ?_ (by with_reducible assumption))))))).mono ?_
  rintro _ w1 ⟨S, F, f, rfl, hBS, hlS, hownS, hb⟩
  have hC1 := hC0.to hb
  have hz1 := hb.size
  simp at hownS hz1
  obtain ⟨n, hn⟩ : ∃ n, Hid (S.length = n) := ⟨_, rfl⟩
  rw [hn.out] at hlS hownS ⊢
  by_cases h0 : n = 0
  · subst h0
    go_wp2_with fail
    refine (c_among (w0 := w) hC1 (by omega) (by simp [SmV]; try omega) (by first | rfl | simp) (by omega) (by omega) (by first | rfl | simp)).mono ?_
    rintro _ w3 ⟨r, rfl, ⟨hr1', hr2', hrm⟩, hC3, hr3⟩
    clear hrm
    have hown3 := own_grow (hownS.alloc _) hr3 (Nat.lt_succ_self _)
    go_wp2_with fail
    refine (c_among (w0 := w) hC3 (by omega) (by simp [SmV]; try omega) (by first | rfl | simp) (by omega) (by omega) (by first | rfl | simp)).mono ?_
    rintro _ w4 ⟨q, rfl, ⟨hq1, hq2, hqm⟩, hC4, hr4⟩
    clear hqm
    have hown4 := own_grow (hown3.alloc _) hr4 (Nat.lt_succ_self _)
    go_wp2_with fail
    refine (s_weekHour (w0 := w) hC4 (by omega)).mono ?_
    rintro _ w5 ⟨h, rfl, ⟨hh1, hh2⟩, hC5, hr5⟩
    have hown5 := own_grow hown4 hr5 (Nat.lt_succ_self _)
    go_wp2_with fail
    go_ret3
    exact ⟨S, F, f, q, h, by rw [hn.out]; rfl, hBS, by rw [hn.out]; exact hlS, by rw [hn.out]; exact own_lower hown5 (Nat.le_succ _), hC5.gw⟩
  have hnz : (0 : Int) < (n : Int) := by omega
  go_wp2_with fail
  refine (s_one w _ w.heap.size 0 4 (by omega) (by omega) hC1).mono ?_
  rintro _ w2 ⟨b, rfl, hC2, hr2⟩
  have hown2 := own_grow hownS hr2 (Nat.lt_succ_self _)
  have hz2 := hr2.size
  cases b with
  | true =>
    go_wp2_with fail
    refine (c_among (w0 := w) hC2 (by omega) (by simp [SmV]; try omega) (by first | rfl | simp) (by omega) (by omega) (by first | rfl | simp)).mono ?_
    rintro _ w3 ⟨r, rfl, ⟨hr1', hr2', hrm⟩, hC3, hr3⟩
    clear hrm
    have hown3 := own_grow (hown2.alloc _) hr3 (Nat.lt_succ_self _)
    go_wp2_with fail
    refine (c_among (w0 := w) hC3 (by omega) (by simp [SmV]; try omega) (by first | rfl | simp) (by omega) (by omega) (by first | rfl | simp)).mono ?_
    rintro _ w4 ⟨q, rfl, ⟨hq1, hq2, hqm⟩, hC4, hr4⟩
    clear hqm
    have hown4 := own_grow (hown3.alloc _) hr4 (Nat.lt_succ_self _)
    go_wp2_with fail
    refine (s_weekHour (w0 := w) hC4 (by omega)).mono ?_
    rintro _ w5 ⟨h, rfl, ⟨hh1, hh2⟩, hC5, hr5⟩
    have hown5 := own_grow hown4 hr5 (Nat.lt_succ_self _)
    go_wp2_with fail
    go_ret3
    exact ⟨S, F, f, q, h, by rw [hn.out]; rfl, hBS, by rw [hn.out]; exact hlS, by rw [hn.out]; exact own_lower hown5 (Nat.le_succ _), hC5.gw⟩
  | false =>
    obtain ⟨gg, hA, hg1, hg2⟩ := own_addr hown2 (by omega)
    subst hA
    go_wp2_with fail
    refine (c_pick (w0 := w) hC2 (by omega) (by omega)).mono ?_
    rintro _ w3 ⟨i0, rfl, ⟨hi1, hi2, hi3⟩, hC3, hr3⟩
    have hi4 := hi3 (by omega)
    obtain ⟨i, rfl⟩ : ∃ i : Nat, i0 = i := ⟨i0.toNat, by omega⟩
    have hlti : i < n := by omega
    obtain ⟨x, hx⟩ := get_of_lt (show i < S.length by rw [hn.out]; exact hlti)
    have Hx := Lib.hid hx
    have hxb := hBS x (mem_of_get hx)
    have hown3 := own_grow hown2 hr3 (Nat.lt_succ_self _)
    have hz3 := hr3.size
    clear hx hi3 hown2 hownS
    obtain ⟨x1, x2, x3, x4⟩ := x
    have hxb : Tm x1 ∧ Tm x2 ∧ Tm x3 ∧ Tm x4 := hxb
    have hce := own_cellsG (α := B4) hn.out hown3 Hx.out
    have e0 : w3.cell? ⟨gg, i * 4, none⟩ = some (.int .i64 x1) := hce 0 _ rfl
    have e1 : w3.cell? ⟨gg, i * 4 + 1, none⟩ = some (.int .i64 x2) := hce 1 _ rfl
    have e2 : w3.cell? ⟨gg, i * 4 + 2, none⟩ = some (.int .i64 x3) := hce 2 _ rfl
    have e3 : w3.cell? ⟨gg, i * 4 + 3, none⟩ = some (.int .i64 x4) := hce 3 _ rfl
    have hg3 : gg < w3.heap.size := by omega
    clear hce
    go_wp2_with fail
    have hbx : ∀ j v, (#[Value.int .i64 x1, .int .i64 x2, .int .i64 x3, .int .i64 x4] : Array Value)[j]? = some v → (w3.alloc (.cells #[Value.int .i64 x1, .int .i64 x2, .int .i64 x3, .int .i64 x4] 43)).cell? ⟨w3.heap.size, j, none⟩ = some v := fun j v hj => box_cell (Gw.refl _) hj
    have y1 := hbx 1 _ rfl
    have y2 := hbx 2 _ rfl
    have hrB : Gw w3 (w3.alloc (.cells #[Value.int .i64 x1, .int .i64 x2, .int .i64 x3, .int .i64 x4] 43)) := (Gw.refl _).alloc _
    have hBz : w3.heap.size < (w3.alloc (.cells #[Value.int .i64 x1, .int .i64 x2, .int .i64 x3, .int .i64 x4] 43)).heap.size := by simp
    clear hbx
    generalize (w3.alloc (.cells #[Value.int .i64 x1, .int .i64 x2, .int .i64 x3, .int .i64 x4] 43)) = B at *
    have hks : ∀ u, Gw B u → (u.cell? ⟨w3.heap.size, 1, none⟩ = some (.int .i64 x2) ∧ u.cell? ⟨w3.heap.size, 2, none⟩ = some (.int .i64 x3)) := fun u hu =>
      ⟨by rw [hu.cells _ _ hBz]; exact y1, by rw [hu.cells _ _ hBz]; exact y2⟩
    have Hks := Lib.hid hks
    have HCB := Lib.hid (hC3.to hrB)
    have HownB := Lib.hid (own_gw hown3 hrB)
    have hg0 : w.heap.size < w3.heap.size := by omega
    clear hks y1 y2 hown3 hC3 e0 e1 e2 e3 hC2 hC1 hC0
    go_region_held3 (fun u => u.cell? ⟨w3.heap.size, 1, none⟩ = some (.int .i64 x2) ∧ u.cell? ⟨w3.heap.size, 2, none⟩ = some (.int .i64 x3)) (first | with_reducible assumption | exact Hks.out _ (by (repeat (first | with_reducible exact Gw.refl _ | with_reducible assumption | ((with_reducible refine Gw.set ?_ ?_ _); rotate_left; (focus (first | (simp; done) | (simp; omega) | omega))) | with_reducible refine Gw.alloc ?_ _ | with_reducible refine Gw.drew ?_ | with_reducible refine Gw.drewN ?_ _ | (refine Gw.trans ?_ (by with_reducible assumption))))) | go_keep)
      (first
        | (have hC4' := hC4; go_at_call 61; refine (c_pick (w0 := w) (n := 2) (hC4.to (show Gw w4 _ from (by (repeat (first | with_reducible exact Gw.refl _ | with_reducible assumption | ((with_reducible refine Gw.set ?_ ?_ _); rotate_left; (focus (first | (simp; done) | (simp; omega) | omega))) | with_reducible refine Gw.alloc ?_ _ | with_reducible refine Gw.drew ?_ | with_reducible refine Gw.drewN ?_ _ | (refine Gw.trans ?_ (by with_reducible assumption))))))) (by omega) (by omega)).mono ?_; rintro e w5 ⟨v, rfl, ⟨hv1, hv2, hv3⟩, hC5, hr5⟩; have hv4 := hv3 (by omega); have hown5 := own_grow (own_gw hown4 (show Gw w4 _ from (by (repeat (first | with_reducible exact Gw.refl _ | with_reducible assumption | ((with_reducible refine Gw.set ?_ ?_ _); rotate_left; (focus (first | (simp; done) | (simp; omega) | omega))) | with_reducible refine Gw.alloc ?_ _ | with_reducible refine Gw.drew ?_ | with_reducible refine Gw.drewN ?_ _ | (refine Gw.trans ?_ (by with_reducible assumption))))))) hr5 (Nat.lt_succ_self _); have hlt4 : w3.heap.size < w4.heap.size := (Nat.lt_of_lt_of_le hBz hr4.size); have hy5 : w5.cell? ⟨w3.heap.size, 1, none⟩ = some (.int .i64 x2) ∧ w5.cell? ⟨w3.heap.size, 2, none⟩ = some (.int .i64 x3) := ⟨(grow_cells hr5 _ _ hlt4 (by omega)).trans hy4.1, (grow_cells hr5 _ _ hlt4 (by omega)).trans hy4.2⟩; have q5 : IntKind.i64.wrap (x3 + u - v) = x3 + u - v := (IntWalk.i64_in _ (by omega)))
        | (go_at_call 61; refine (c_pick (w0 := w) (n := 4) (HCB.out.to (show Gw B _ from (by (repeat (first | with_reducible exact Gw.refl _ | with_reducible assumption | ((with_reducible refine Gw.set ?_ ?_ _); rotate_left; (focus (first | (simp; done) | (simp; omega) | omega))) | with_reducible refine Gw.alloc ?_ _ | with_reducible refine Gw.drew ?_ | with_reducible refine Gw.drewN ?_ _ | (refine Gw.trans ?_ (by with_reducible assumption))))))) (by omega) (by omega)).mono ?_; rintro e w4 ⟨u, rfl, ⟨hu1, hu2, hu3⟩, hC4, hr4⟩; have hu4 := hu3 (by omega); have hown4 := own_grow (own_gw HownB.out (show Gw B _ from (by (repeat (first | with_reducible exact Gw.refl _ | with_reducible assumption | ((with_reducible refine Gw.set ?_ ?_ _); rotate_left; (focus (first | (simp; done) | (simp; omega) | omega))) | with_reducible refine Gw.alloc ?_ _ | with_reducible refine Gw.drew ?_ | with_reducible refine Gw.drewN ?_ _ | (refine Gw.trans ?_ (by with_reducible assumption))))))) hr4 (Nat.lt_succ_self _); have q4 : IntKind.i64.wrap (x3 + u) = x3 + u := (IntWalk.i64_in _ (by omega)); have hlt3 := hBz; have hy4 : w4.cell? ⟨w3.heap.size, 1, none⟩ = some (.int .i64 x2) ∧ w4.cell? ⟨w3.heap.size, 2, none⟩ = some (.int .i64 x3) := ⟨(grow_cells hr4 _ _ (show w3.heap.size < B.heap.size from hBz) (by omega)).trans (Hks.out _ (by (repeat (first | with_reducible exact Gw.refl _ | with_reducible assumption | ((with_reducible refine Gw.set ?_ ?_ _); rotate_left; (focus (first | (simp; done) | (simp; omega) | omega))) | with_reducible refine Gw.alloc ?_ _ | with_reducible refine Gw.drew ?_ | with_reducible refine Gw.drewN ?_ _ | (refine Gw.trans ?_ (by with_reducible assumption)))))).1, (grow_cells hr4 _ _ (show w3.heap.size < B.heap.size from hBz) (by omega)).trans (Hks.out _ (by (repeat (first | with_reducible exact Gw.refl _ | with_reducible assumption | ((with_reducible refine Gw.set ?_ ?_ _); rotate_left; (focus (first | (simp; done) | (simp; omega) | omega))) | with_reducible refine Gw.alloc ?_ _ | with_reducible refine Gw.drew ?_ | with_reducible refine Gw.drewN ?_ _ | (refine Gw.trans ?_ (by with_reducible assumption)))))).2⟩)
        | fail)
    all_goals
      go_wp2_with fail
      go_ret3
      exact ⟨S, _, f, x2, x3 + u - v, by rw [hn.out]; rfl, hBS, by rw [hn.out]; exact hlS, by rw [hn.out]; exact own_lower hown5 (Nat.le_succ _), hC5.gw⟩
end Go.Proofs.YtgbgmmdpldekbaaDoor
