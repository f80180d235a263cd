/-
  Draws of spots.
-/
import Derived.Test.YthokcddabgojgaaCur
import Derived.Test.YthokcddabgojgaaBox
import Derived.Test.YthokcddabgojgaaSetG
import Derived.Test.YthokcddabgojgaaTySpot
import Derived.Deep.RegionHeld3
import Derived.Deep.RegionLaw
import Derived.Deep.DeepCutAuto
namespace Go.Proofs.Ythokcddabgojgaa
open Go.RowKit

theorem BoxR.grown {w w' : World} {b : Nat} {cs : Array Value} {t : TypeId} {row : Option Nat} (h : BoxR w b cs t) (hg : w.grownBy w' row) (hne : row ≠ some b) : BoxR w' b cs t := by
  have hlt := h.lt
  unfold BoxR at *
  rw [hg.block b hlt (fun e => hne e.symm)]
  exact h
theorem BoxR.other {w : World} {b : Nat} {cs : Array Value} {t : TypeId} (h : BoxR w b cs t) {p : Addr} (hne : ¬b = p.block) (u : Value) : BoxR (w.setCell p u) b cs t := by
  unfold BoxR at *
  rw [Below.heap_setCell w p u b hne]
  exact h
theorem own_grow {w w' : World} {base : Nat} {e : TypeId} {size n : Nat} {v : Value} {xs : List Value} {g : Nat} (h : w.ownsRow base e size v n xs) (hg : w.grownBy w' (some g)) (hb : g < base) : w'.ownsRow base e size v n xs := by
  refine h.kept hg ?_
  cases hv : v.ownBlock with
  | none => exact .inl rfl
  | some k =>
    have h1 := (h.lt k hv).1
    exact .inr fun he => absurd (Option.some.inj he) (by omega)
theorem own_setB {w : World} {base size n b : Nat} {v : Value} {xs : List Value} {t : TypeId} (h : w.ownsRow base t size v n xs) (hb : ¬v.ownBlock = some b) (j : Nat) (u : Value) : (w.setCell ⟨b, j, none⟩ u).ownsRow base t size v n xs :=
  h.kept (row := some b) ⟨rfl, rfl, rfl, by simp [World.setCell], fun k _ hk => Below.heap_setCell _ _ _ _ (fun e => hk (by simp [e]))⟩ (.inr hb)
abbrev SpotB (x y : Int) : Prop := (0 ≤ x ∧ x ≤ 1280) ∧ 0 ≤ y ∧ y ≤ 672
abbrev SpotT (x y : Int) : Prop := (-10000 ≤ x ∧ x ≤ 10000) ∧ -10000 ≤ y ∧ y ≤ 10000

set_option maxHeartbeats 8000000 in
set_option maxRecDepth 20000 in
theorem s_spot {w0 w : World} {g m : Nat} (hC : CurP w0 w g m) (hm : m ≤ 1000000000) :
    Calls Try.prog 65 #[.pointer (some ⟨g, 0, none⟩)] w fun e w' => ∃ x y : Int, e = .returned (.agg #[.int .i64 x, .int .i64 y]) ∧ SpotB x y ∧ CurP w0 w' g (m + 20) ∧ w.grownBy w' (some g) := by
  have hlt := CurP.lt hC
  have hw0 := hC.gw.size
  have hne : ∀ {b : Nat}, ¬g = b → (some g : Option Nat) ≠ some b := fun h e => h (Option.some.inj e)
  have hgb : ¬g = w.heap.size := by omega
  have bx := BoxR.new w #[.int .i64 0, .int .i64 0] 24
  go_enter Try.func65, Try.ntmps65
  go_wp2_with fail
  refine (c_pick (w0 := w0) (hC.alloc _) (by omega) (by omega)).mono ?_
  rintro _ w1 ⟨a, rfl, ⟨ha1, ha2, ha3⟩, hC1, hr1⟩
  have ha4 := ha3 (by omega)
  have wa : IntKind.i64.wrap (8 * a) = 8 * a := IntWalk.i64_in _ (by omega)
  have bx1 := bx.grown hr1 (hne hgb)
  have hg1 : w.grownBy w1 (some g) := grownBy_trans (gw_grow ((Gw.refl w).alloc _) g) hr1
  clear ha3 hr1 bx
  go_wp2_with fail
  refine (c_pick (w0 := w0) hC1 (by omega) (by omega)).mono ?_
  rintro _ w2 ⟨b, rfl, ⟨hb1, hb2, hb3⟩, hC2, hr2⟩
  have hb4 := hb3 (by omega)
  have bx2 := bx1.grown hr2 (hne hgb)
  have hg2 : w.grownBy w2 (some g) := grownBy_trans hg1 hr2
  clear hb3 hr2 bx1 hg1
  go_wp2_with fail
  refine (c_among (w0 := w0) hC2 (by omega) (by simp [SmV]; omega) (by first | rfl | simp) (by omega) (by omega) (by first | rfl | simp)).mono ?_
  rintro _ w3 ⟨x, rfl, ⟨hx1, hx2, hxm⟩, hC3, hr3⟩
  have hxb : 0 ≤ x ∧ x ≤ 1280 := by
    simp at hxm
    omega
  have bx3 := (bx2.gw ((Gw.refl _).alloc _)).grown hr3 (hne hgb)
  have hg3 : w.grownBy w3 (some g) := grownBy_trans (grow_alloc hg2 _) hr3
  clear hxm hr3 bx2 hg2
  go_wp2_with fail
  refine (c_pick (w0 := w0) hC3 (by omega) (by omega)).mono ?_
  rintro _ w4 ⟨c, rfl, ⟨hc1, hc2, hc3⟩, hC4, hr4⟩
  have hc4 := hc3 (by omega)
  have wc : IntKind.i64.wrap (8 * c) = 8 * c := IntWalk.i64_in _ (by omega)
  have bx4 := bx3.grown hr4 (hne hgb)
  have hg4 : w.grownBy w4 (some g) := grownBy_trans hg3 hr4
  clear hc3 hr4 bx3 hg3
  go_wp2_with fail
  refine (c_pick (w0 := w0) hC4 (by omega) (by omega)).mono ?_
  rintro _ w5 ⟨d, rfl, ⟨hd1, hd2, hd3⟩, hC5, hr5⟩
  have hd4 := hd3 (by omega)
  have bx5 := bx4.grown hr5 (hne hgb)
  have hg5 : w.grownBy w5 (some g) := grownBy_trans hg4 hr5
  clear hd3 hr5 bx4 hg4
  go_wp2_with fail
  refine (c_among (w0 := w0) hC5 (by omega) (by simp [SmV]; omega) (by first | rfl | simp) (by omega) (by omega) (by first | rfl | simp)).mono ?_
  rintro _ w6 ⟨y, rfl, ⟨hy1, hy2, hym⟩, hC6, hr6⟩
  have hyb : 0 ≤ y ∧ y ≤ 672 := by
    simp at hym
    omega
  have bx6 := (bx5.gw ((Gw.refl _).alloc _)).grown hr6 (hne hgb)
  have hg6 : w.grownBy w6 (some g) := grownBy_trans (grow_alloc hg5 _) hr6
  clear hym hr6 bx5 hg5
  have z0 := bx6.cell 0 rfl
  have z1 := bx6.cell 1 rfl
  have y0 := bx6.free 0
  have y1 := bx6.free 1
  have hq := Lib.hid ((bx6.set 0 (.int .i64 x)).set 1 (.int .i64 y))
  have hC9 := Lib.hid ((hC6.set (p := ⟨w.heap.size, 0, none⟩) (by exact hw0) (by exact fun e => hgb e.symm) (.int .i64 x)).set (p := ⟨w.heap.size, 1, none⟩) (by exact hw0) (by exact fun e => hgb e.symm) (.int .i64 y))
  have hg9 := Lib.hid (grow_set (grow_set hg6 (p := ⟨w.heap.size, 0, none⟩) (Nat.le_refl _) (.int .i64 x)) (p := ⟨w.heap.size, 1, none⟩) (Nat.le_refl _) (.int .i64 y))
  clear bx6 hC6 hg6
  go_wp2_with fail
  have q0 := hq.out.cell 0 rfl
  have q1 := hq.out.cell 1 rfl
  exact bodyPost_ret (v := .agg #[.int .i64 x, .int .i64 y]) (by simp [results, Try.results65, go_sem, q0, q1]) rfl ⟨x, y, rfl, ⟨hxb, hyb⟩, hC9.out.mono (by omega), hg9.out⟩

set_option maxHeartbeats 8000000 in
set_option maxRecDepth 20000 in
theorem s_anySpot {w0 w : World} {g m : Nat} (hC : CurP w0 w g m) (hm : m ≤ 1000000000) :
    Calls Try.prog 68 #[.pointer (some ⟨g, 0, none⟩)] w fun e w' => ∃ x y : Int, e = .returned (.agg #[.int .i64 x, .int .i64 y]) ∧ SpotT x y ∧ CurP w0 w' g (m + 30) ∧ w.grownBy w' (some g) := by
  have hlt := CurP.lt hC
  have hw0 := hC.gw.size
  have hne : ∀ {b : Nat}, ¬g = b → (some g : Option Nat) ≠ some b := fun h e => h (Option.some.inj e)
  have hgb : ¬g = w.heap.size := by omega
  have bx := BoxR.new w #[.int .i64 0, .int .i64 0] 24
  go_enter Try.func68, Try.ntmps68
  go_wp2_with fail
  refine (s_spot (w0 := w0) (hC.alloc _) (by omega)).mono ?_
  rintro _ w1 ⟨x, y, rfl, hxy, hC1, hr1⟩
  have hs1 := hr1.size
  simp at hs1
  have bR1 := bx.grown hr1 (hne hgb)
  have hg1 : w.grownBy w1 (some g) := grownBy_trans (gw_grow ((Gw.refl w).alloc _) g) hr1
  have bE := BoxR.new w1 #[.int .i64 x, .int .i64 y] 24
  have hge : ¬g = w1.heap.size := by omega
  have hre : ¬w.heap.size = w1.heap.size := by omega
  clear hr1 bx
  go_wp2_with fail
  refine (c_pick (w0 := w0) (hC1.alloc _) (by omega) (by omega)).mono ?_
  rintro _ w2 ⟨v, rfl, ⟨hv1, hv2, -⟩, hC2, hr2⟩
  have bR2 := (bR1.gw ((Gw.refl _).alloc _)).grown hr2 (hne hgb)
  have bE2 := bE.grown hr2 (hne hge)
  have hg2 : w.grownBy w2 (some g) := grownBy_trans (grow_alloc hg1 _) hr2
  clear hr2 bR1 bE hg1
  by_cases v0 : v = 0
  · subst v0
    go_wp2_with fail
    refine (c_among (w0 := w0) hC2 (by omega) (by simp [SmV]; try omega) (by first | rfl | simp) (by omega) (by omega) (by first | rfl | simp)).mono ?_
    rintro _ w3 ⟨r, rfl, ⟨hr1', hr2', hrm⟩, hC3, hr3⟩
    have hrb : -10000 ≤ r ∧ r ≤ 10000 := by
      simp at hrm
      omega
    have bR3 := (bR2.gw ((Gw.refl _).alloc _)).grown hr3 (hne hgb)
    have bE3 := (bE2.gw ((Gw.refl _).alloc _)).grown hr3 (hne hge)
    have hg3 : w.grownBy w3 (some g) := grownBy_trans (grow_alloc hg2 _) hr3
    have s0 := bE3.cell 0 rfl
    have s1 := bE3.free 0
    have bE4 := bE3.set 0 (.int .i64 r)
    have bR4 := bR3.other (p := ⟨w1.heap.size, 0, none⟩) (by exact hre) (.int .i64 r)
    have hC4 := hC3.set (p := ⟨w1.heap.size, 0, none⟩) (by show w0.heap.size ≤ w1.heap.size; omega) (by exact fun e => hge e.symm) (.int .i64 r)
    have hg4 := grow_set hg3 (p := ⟨w1.heap.size, 0, none⟩) (by show w.heap.size ≤ w1.heap.size; omega) (.int .i64 r)
    clear hrm hr3 hC3 hg3 bR3 bE3
    have e0 := bE4.cell 0 rfl
    have e1 := bE4.cell 1 rfl
    have z0 := bR4.cell 0 rfl
    have z1 := bR4.cell 1 rfl
    have y0 := bR4.free 0
    have y1 := bR4.free 1
    have hq := Lib.hid ((bR4.set 0 (.int .i64 r)).set 1 (.int .i64 y))
    have hC9 := Lib.hid ((hC4.set (p := ⟨w.heap.size, 0, none⟩) (by exact hw0) (by exact fun e => hgb e.symm) (.int .i64 r)).set (p := ⟨w.heap.size, 1, none⟩) (by exact hw0) (by exact fun e => hgb e.symm) (.int .i64 y))
    have hg9 := Lib.hid (grow_set (grow_set hg4 (p := ⟨w.heap.size, 0, none⟩) (Nat.le_refl _) (.int .i64 r)) (p := ⟨w.heap.size, 1, none⟩) (Nat.le_refl _) (.int .i64 y))
    go_wp2_with fail
    have q0 := hq.out.cell 0 rfl
    have q1 := hq.out.cell 1 rfl
    exact bodyPost_ret (v := .agg #[.int .i64 r, .int .i64 y]) (by simp [results, Try.results68, go_sem, q0, q1]) rfl ⟨r, y, rfl, by omega, hC9.out.mono (by omega), hg9.out⟩
  by_cases v1 : v = 1
  · subst v1
    go_wp2_with fail
    refine (c_among (w0 := w0) hC2 (by omega) (by simp [SmV]; try omega) (by first | rfl | simp) (by omega) (by omega) (by first | rfl | simp)).mono ?_
    rintro _ w3 ⟨r, rfl, ⟨hr1', hr2', hrm⟩, hC3, hr3⟩
    have hrb : -10000 ≤ r ∧ r ≤ 10000 := by
      simp at hrm
      omega
    have bR3 := (bR2.gw ((Gw.refl _).alloc _)).grown hr3 (hne hgb)
    have bE3 := (bE2.gw ((Gw.refl _).alloc _)).grown hr3 (hne hge)
    have hg3 : w.grownBy w3 (some g) := grownBy_trans (grow_alloc hg2 _) hr3
    have s0 := bE3.cell 1 rfl
    have s1 := bE3.free 1
    have bE4 := bE3.set 1 (.int .i64 r)
    have bR4 := bR3.other (p := ⟨w1.heap.size, 1, none⟩) (by exact hre) (.int .i64 r)
    have hC4 := hC3.set (p := ⟨w1.heap.size, 1, none⟩) (by show w0.heap.size ≤ w1.heap.size; omega) (by exact fun e => hge e.symm) (.int .i64 r)
    have hg4 := grow_set hg3 (p := ⟨w1.heap.size, 1, none⟩) (by show w.heap.size ≤ w1.heap.size; omega) (.int .i64 r)
    clear hrm hr3 hC3 hg3 bR3 bE3
    have e0 := bE4.cell 0 rfl
    have e1 := bE4.cell 1 rfl
    have z0 := bR4.cell 0 rfl
    have z1 := bR4.cell 1 rfl
    have y0 := bR4.free 0
    have y1 := bR4.free 1
    have hq := Lib.hid ((bR4.set 0 (.int .i64 x)).set 1 (.int .i64 r))
    have hC9 := Lib.hid ((hC4.set (p := ⟨w.heap.size, 0, none⟩) (by exact hw0) (by exact fun e => hgb e.symm) (.int .i64 x)).set (p := ⟨w.heap.size, 1, none⟩) (by exact hw0) (by exact fun e => hgb e.symm) (.int .i64 r))
    have hg9 := Lib.hid (grow_set (grow_set hg4 (p := ⟨w.heap.size, 0, none⟩) (Nat.le_refl _) (.int .i64 x)) (p := ⟨w.heap.size, 1, none⟩) (Nat.le_refl _) (.int .i64 r))
    go_wp2_with fail
    have q0 := hq.out.cell 0 rfl
    have q1 := hq.out.cell 1 rfl
    exact bodyPost_ret (v := .agg #[.int .i64 x, .int .i64 r]) (by simp [results, Try.results68, go_sem, q0, q1]) rfl ⟨x, r, rfl, by omega, hC9.out.mono (by omega), hg9.out⟩
  have b0 : (v == 0) = false := by simp [v0]
  have b1 : (v == 1) = false := by simp [v1]
  have e0 := bE2.cell 0 rfl
  have e1 := bE2.cell 1 rfl
  have z0 := bR2.cell 0 rfl
  have z1 := bR2.cell 1 rfl
  have y0 := bR2.free 0
  have y1 := bR2.free 1
  have hq := Lib.hid ((bR2.set 0 (.int .i64 x)).set 1 (.int .i64 y))
  have hC9 := Lib.hid ((hC2.set (p := ⟨w.heap.size, 0, none⟩) (by exact hw0) (by exact fun e => hgb e.symm) (.int .i64 x)).set (p := ⟨w.heap.size, 1, none⟩) (by exact hw0) (by exact fun e => hgb e.symm) (.int .i64 y))
  have hg9 := Lib.hid (grow_set (grow_set hg2 (p := ⟨w.heap.size, 0, none⟩) (Nat.le_refl _) (.int .i64 x)) (p := ⟨w.heap.size, 1, none⟩) (Nat.le_refl _) (.int .i64 y))
  go_wp2_with fail
  have q0 := hq.out.cell 0 rfl
  have q1 := hq.out.cell 1 rfl
  exact bodyPost_ret (v := .agg #[.int .i64 x, .int .i64 y]) (by simp [results, Try.results68, go_sem, q0, q1]) rfl ⟨x, y, rfl, by omega, hC9.out.mono (by omega), hg9.out⟩
end Go.Proofs.Ythokcddabgojgaa
