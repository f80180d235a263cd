/-
  Draws of the arguments of AddWindow, CloseHours, HoursOf.
-/
import Derived.Test.YtegokhpbjhanbaaWinE
namespace Go.Proofs.Ytegokhpbjhanbaa
open Go.RowKit

theorem own_setOut {w : World} {base : Nat} {e : TypeId} {size n : Nat} {v : Value} {xs : List Value} (h : w.ownsRow base e size v n xs) {p : Addr} (hb : p.block < base) (u : Value) : (w.setCell p u).ownsRow base e size v n xs :=
  own_grow (g := p.block) h ⟨rfl, rfl, rfl, by simp [World.setCell], fun k _ hk => Below.heap_setCell _ _ _ _ (fun e => hk (by simp [e]))⟩ hb

set_option maxHeartbeats 8000000 in
set_option maxRecDepth 20000 in
theorem d_HoursOf (A : Option Addr) (cc : Nat) (bs : List UInt8) (w : World) (hl : bs.length ≤ 9223372036854775807) (hr : Rd w A bs) :
    Calls Try.prog 50 #[.slice A bs.length cc] w fun e w' => ∃ (l : List W3) (D : Option Addr) (c : Nat) (p : Int), e = .returned (.tuple #[.slice D l.length c, .int .i64 p]) ∧ WinB l ∧ l.length ≤ 30 ∧ Tm p ∧ w'.ownsRow w.heap.size 30 3 (.slice D l.length c) l.length (flat l) ∧ Gw w w' := by
  have hC0 := CurP.new (c := cc) hr hl (Gw.refl w)
  go_enter Try.func50, Try.ntmps50
  go_wp2_with fail
  refine (s_anyWindows (w0 := w) hC0 (by omega)).mono ?_
  rintro _ w1 ⟨l, D, c, rfl, hB, hll, hown, hC1, hr1⟩
  simp at hown
  have hz1 := hr1.size; (try simp at hz1)
  have hlt1 := CurP.lt hC1
  go_wp2_with fail
  refine (c_among (w0 := w) hC1 (by omega) (by simp [SmV]; try omega) (by first | rfl | simp) (by omega) (by omega) (by first | rfl | simp)).mono ?_
  rintro _ w2 ⟨r, rfl, ⟨hr1', hr2', hrm⟩, hC2, hr2⟩
  have hrb : Tm r := by
    simp at hrm
    omega
  clear hrm
  have hown2 := own_grow (hown.alloc _) hr2 (Nat.lt_succ_self _)
  have hlt2 := CurP.lt hC2
  go_wp2_with fail
  refine (c_among (w0 := w) hC2 (by omega) (by simp [SmV]; try omega) (by first | rfl | simp) (by omega) (by omega) (by first | rfl | simp)).mono ?_
  rintro _ w3 ⟨q, rfl, ⟨hq1, hq2, hqm⟩, hC3, hr3⟩
  have hqb : Tm q := by
    simp at hqm
    omega
  clear hqm
  have hown3 := own_grow (hown2.alloc _) hr3 (Nat.lt_succ_self _)
  go_wp2_with fail
  go_ret2
  exact ⟨l, D, c, q, rfl, hB, hll, hqb, own_lower hown3 (Nat.le_succ _), hC3.gw⟩

set_option maxHeartbeats 8000000 in
set_option maxRecDepth 20000 in
theorem d_CloseHours (A : Option Addr) (cc : Nat) (bs : List UInt8) (w : World) (hl : bs.length ≤ 9223372036854775807) (hr : Rd w A bs) :
    Calls Try.prog 49 #[.slice A bs.length cc] w fun e w' => ∃ (l : List W3) (D : Option Addr) (c : Nat) (f t : Int), e = .returned (.tuple #[.slice D l.length c, .int .i64 f, .int .i64 t]) ∧ WinB l ∧ l.length ≤ 30 ∧ (Tm f ∧ Tm t) ∧ w'.ownsRow w.heap.size 30 3 (.slice D l.length c) l.length (flat l) ∧ Gw w w' := by
  have hC0 := CurP.new (c := cc) hr hl (Gw.refl w)
  go_enter Try.func49, Try.ntmps49
  go_wp2_with fail
  refine (s_weekHour (w0 := w) hC0 (by omega)).mono ?_
  rintro _ w1 ⟨f, rfl, ⟨hf1, hf2⟩, hC1, hr1⟩
  have hz1 := hr1.size; (try simp at hz1)
  have q1 : IntKind.i64.wrap (168 - f) = 168 - f := IntWalk.i64_in _ (by omega)
  have q2 : IntKind.i64.wrap (169 - f) = 169 - f := IntWalk.i64_in _ (by omega)
  go_wp2_with fail
  refine (s_anyWindows (w0 := w) hC1 (by omega)).mono ?_
  rintro _ w2 ⟨l, D, c, rfl, hB, hll, hown, hC2, hr2⟩
  have hz2 := hr2.size
  have hlt2 := CurP.lt hC2
  go_wp2_with fail
  refine (c_among (w0 := w) hC2 (by omega) (by simp [SmV]; omega) (by first | rfl | simp) (by omega) (by omega) (by first | rfl | simp)).mono ?_
  rintro _ w3 ⟨r, rfl, ⟨hr1', hr2', hrm⟩, hC3, hr3⟩
  have hrb : -100000 ≤ r ∧ r ≤ 100000 := by
    simp at hrm
    omega
  clear hrm
  have q3 : IntKind.i64.wrap (f + r) = f + r := IntWalk.i64_in _ (by omega)
  have hown3 := own_grow (hown.alloc _) hr3 (show w.heap.size < w1.heap.size by omega)
  go_wp2_with fail
  go_ret3
  exact ⟨l, D, c, f, f + r, rfl, hB, hll, by omega, own_lower hown3 (by omega), hC3.gw⟩

set_option maxHeartbeats 8000000 in
set_option maxRecDepth 20000 in
theorem d_AddWindow (A : Option Addr) (cc : Nat) (bs : List UInt8) (w : World) (hl : bs.length ≤ 9223372036854775807) (hr : Rd w A bs) :
    Calls Try.prog 41 #[.slice A bs.length cc] w fun e w' => ∃ (l : List W3) (D : Option Addr) (c : Nat) (p f t : Int), e = .returned (.tuple #[.slice D l.length c, .agg #[.int .i64 p, .int .i64 f, .int .i64 t]]) ∧ WinB l ∧ l.length ≤ 30 ∧ (Tm p ∧ Tm f ∧ Tm t) ∧ w'.ownsRow w.heap.size 30 3 (.slice D l.length c) l.length (flat l) ∧ Gw w w' := by
  have hC0 : CurP w ((w.alloc (.cells #[.int .i64 0, .int .i64 0, .int .i64 0] 30)).alloc (.cells #[.slice A bs.length cc, .int .i64 0, .int .u64 0] 117)) (w.heap.size + 1) 0 := by
    have := CurP.new (c := cc) hr hl (W := w.alloc (.cells #[.int .i64 0, .int .i64 0, .int .i64 0] 30)) ((Gw.refl w).alloc _)
    simpa using this
  have bx0 := (BoxR.new w #[.int .i64 0, .int .i64 0, .int .i64 0] 30).gw ((Gw.refl _).alloc (.cells #[.slice A bs.length cc, .int .i64 0, .int .u64 0] 117))
  have Bx0 := Lib.hid bx0
  clear bx0
  go_enter Try.func41, Try.ntmps41
  go_wp2_with fail
  refine (s_weekHour (w0 := w) hC0 (by omega)).mono ?_
  rintro _ w1 ⟨f, rfl, ⟨hf1, hf2⟩, hC1, hr1⟩
  have hz1 := hr1.size; (try simp at hz1)
  have Bx1 := Lib.hid (Bx0.out.grown hr1 (by simp))
  go_wp2_with fail
  refine (s_anyWindows (w0 := w) hC1 (by omega)).mono ?_
  rintro _ w2 ⟨l, D, c, rfl, hB, hll, hown, hC2, hr2⟩
  have hz2 := hr2.size
  have hlt2 := CurP.lt hC2
  have Bx2 := Lib.hid (Bx1.out.grown hr2 (by simp))
  go_wp2_with fail
  refine (c_among (w0 := w) hC2 (by omega) (by simp [SmV]; try omega) (by first | rfl | simp) (by omega) (by omega) (by first | rfl | simp)).mono ?_
  rintro _ w3 ⟨r, rfl, ⟨hr1', hr2', hrm⟩, hC3, hr3⟩
  have hrb : Tm r := by
    simp at hrm
    omega
  clear hrm
  have hown3 := own_grow (hown.alloc _) hr3 (show w.heap.size + 1 < w1.heap.size by omega)
  have hlt3 := CurP.lt hC3
  have hz3 := hr3.size; (try simp at hz3)
  have Bx3 := Lib.hid ((Bx2.out.gw ((Gw.refl w2).alloc _)).grown hr3 (by simp))
  go_wp2_with fail
  refine (c_among (w0 := w) hC3 (by omega) (by simp [SmV]; try omega) (by first | rfl | simp) (by omega) (by omega) (by first | rfl | simp)).mono ?_
  rintro _ w4 ⟨p, rfl, ⟨hp1, hp2, hpm⟩, hC4, hr4⟩
  have hpb : Tm p := by
    simp at hpm
    omega
  clear hpm
  have hown4 := own_grow (hown3.alloc _) hr4 (show w.heap.size + 1 < w1.heap.size by omega)
  have hlt4 := CurP.lt hC4
  have hz4 := hr4.size; (try simp at hz4)
  have Bx4 := Lib.hid ((Bx3.out.gw ((Gw.refl w3).alloc _)).grown hr4 (by simp))
  go_wp2_with fail
  refine (c_among (w0 := w) hC4 (by omega) (by simp [SmV]; try omega) (by first | rfl | simp) (by omega) (by omega) (by first | rfl | simp)).mono ?_
  rintro _ w5 ⟨d, rfl, ⟨hd1, hd2, hdm⟩, hC5, hr5⟩
  have hdb : 0 ≤ d ∧ d ≤ 20 := by
    simp at hdm
    omega
  clear hdm
  have q3 : IntKind.i64.wrap (f + d) = f + d := IntWalk.i64_in _ (by omega)
  have hown5 := own_grow (hown4.alloc _) hr5 (show w.heap.size + 1 < w1.heap.size by omega)
  have bx5 := (Bx4.out.gw ((Gw.refl w4).alloc _)).grown hr5 (by simp)
  have c0 := bx5.cell 0 rfl
  have c1 := bx5.cell 1 rfl
  have c2 := bx5.cell 2 rfl
  have f0 := bx5.free 0
  have f1 := bx5.free 1
  have f2 := bx5.free 2
  have s3 := ((bx5.set 0 (.int .i64 p)).set 1 (.int .i64 f)).set 2 (.int .i64 (f + d))
  have q4 := s3.cell 0 rfl
  have q5 := s3.cell 1 rfl
  have q6 := s3.cell 2 rfl
  have hown6 := Lib.hid (own_setOut (own_setOut (own_setOut hown5 (p := ⟨w.heap.size, 0, none⟩) (by show w.heap.size < w1.heap.size; omega) (.int .i64 p)) (p := ⟨w.heap.size, 1, none⟩) (by show w.heap.size < w1.heap.size; omega) (.int .i64 f)) (p := ⟨w.heap.size, 2, none⟩) (by show w.heap.size < w1.heap.size; omega) (.int .i64 (f + d)))
  have hG6 := Lib.hid (((hC5.gw.set (p := ⟨w.heap.size, 0, none⟩) (Nat.le_refl _) (.int .i64 p)).set (p := ⟨w.heap.size, 1, none⟩) (Nat.le_refl _) (.int .i64 f)).set (p := ⟨w.heap.size, 2, none⟩) (Nat.le_refl _) (.int .i64 (f + d)))
  clear bx5 s3 hown hown3 hown4 hown5
  go_wp2_with fail
  exact bodyPost_ret (v := .tuple #[.slice D l.length c, .agg #[.int .i64 p, .int .i64 f, .int .i64 (f + d)]]) (by simp [results, Try.results41, go_sem, q4, q5, q6]) rfl ⟨l, D, c, p, f, f + d, rfl, hB, hll, ⟨hpb, by omega, by omega⟩, own_lower hown6.out (by omega), hG6.out⟩
end Go.Proofs.Ytegokhpbjhanbaa
