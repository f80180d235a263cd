/-
  Draws of edits: one edit.
-/
import Derived.Test.YtoofpajeogllhaaEdG
import Derived.Test.YtoofpajeogllhaaTyEdit
namespace Go.Proofs.Ytoofpajeogllhaa
open Go.RowKit

set_option maxHeartbeats 8000000 in
set_option maxRecDepth 20000 in
theorem s_editOf {w0 w : World} {g m base : Nat} (hC : CurP w0 w g m) (hm : m ≤ 100000000) (l : List (Int × Int)) (A : Option Addr) (n c : Nat) (hk : l.length = n) (hn : n ≤ 13) (hown : w.ownsRow base 26 2 (.slice A n c) n (flat l)) (hgbase : g < base) :
    Calls Try.prog 26 #[.pointer (some ⟨g, 0, none⟩), .slice A n c] w fun e w' => ∃ ed p b1 b2 a1 a2 : Int, e = .returned (.agg #[.int .i64 ed, .int .i64 p, .int .i64 b1, .int .i64 b2, .int .i64 a1, .int .i64 a2]) ∧ CurP w0 w' g (m + 120) ∧ w.grownBy w' (some g) := by
  have hk := Lib.hid hk
  have hlt := CurP.lt hC
  have hw0 := hC.gw.size
  have hne : ∀ {b : Nat}, ¬g = b → (some g : Option Nat) ≠ some b := fun h e => h (Option.some.inj e)
  have hgb0 : ¬g = w.heap.size := by omega
  have bx := BoxR.new w #[.int .i64 0, .int .i64 0, .int .i64 0, .int .i64 0, .int .i64 0, .int .i64 0] 28
  go_enter Try.func26, Try.ntmps26
  go_wp2_with fail
  refine (c_pick (w0 := w0) (hC.alloc _) (by omega) (by omega)).mono ?_
  rintro _ w1 ⟨v, rfl, ⟨hv1, hv2, hv3⟩, hC1, hr1⟩
  have hv4 := hv3 (by omega)
  have wv : IntKind.i64.wrap (1 + v) = 1 + v := IntWalk.i64_in _ (by omega)
  have bx1 := bx.grown hr1 (hne hgb0)
  have hown1 := own_grow (hown.alloc _) hr1 hgbase
  have hg1 := grownBy_trans (gw_grow ((Gw.refl w).alloc _) g) hr1
  clear hv3 hr1 bx
  go_wp2_with fail
  refine (s_spot (w0 := w0) hC1 (by omega)).mono ?_
  rintro _ w2 ⟨x, y, rfl, -, hC2, hr2⟩
  have bx2 := bx1.grown hr2 (hne hgb0)
  have hown2 := own_grow hown1 hr2 hgbase
  have hg2 := grownBy_trans hg1 hr2
  have hs2 := hg2.size
  have hge : ¬g = w2.heap.size := by have := CurP.lt hC2; omega
  have hre : ¬w.heap.size = w2.heap.size := by have := bx2.lt; omega
  have hap : ¬(Value.slice A n c).ownBlock = some w2.heap.size := fun e => by have := (hown2.lt _ e).2; omega
  have bE := BoxR.new w2 #[.int .i64 (1 + v), .int .i64 0, .int .i64 0, .int .i64 0, .int .i64 x, .int .i64 y] 28
  have bR := bx2.gw ((Gw.refl w2).alloc (.cells #[.int .i64 (1 + v), .int .i64 0, .int .i64 0, .int .i64 0, .int .i64 x, .int .i64 y] 28))
  have hCa := hC2.alloc (.cells #[.int .i64 (1 + v), .int .i64 0, .int .i64 0, .int .i64 0, .int .i64 x, .int .i64 y] 28)
  have hga := grow_alloc hg2 (.cells #[.int .i64 (1 + v), .int .i64 0, .int .i64 0, .int .i64 0, .int .i64 x, .int .i64 y] 28)
  have hoa := hown2.alloc (.cells #[.int .i64 (1 + v), .int .i64 0, .int .i64 0, .int .i64 0, .int .i64 x, .int .i64 y] 28)
  clear hr2 bx1 bx2 hown1 hown2 hC2
  go_upto_if 14 with fail
  go_cut [18] (fun _ wx => ∃ p b1 b2 a1 a2 : Int, BoxR wx w2.heap.size #[.int .i64 (1 + v), .int .i64 p, .int .i64 b1, .int .i64 b2, .int .i64 a1, .int .i64 a2] 28 ∧ BoxR wx w.heap.size #[.int .i64 0, .int .i64 0, .int .i64 0, .int .i64 0, .int .i64 0, .int .i64 0] 28 ∧ Hid (CurP w0 wx g (m + 60) ∧ w.grownBy wx (some g)))
  case first =>
    by_cases h0 : n = 0
    · subst h0
      go_wp2_with fail
      go_meet
      exact ⟨0, 0, 0, x, y, bE, bR, ⟨hCa.mono (by omega), hga⟩⟩
    have hkp : (0 : Int) < (n : Int) := by omega
    obtain ⟨gg, hA, hgg1, hgg2⟩ := own_addr hoa (by omega)
    subst hA
    have hapn : ¬gg = w2.heap.size := fun e => hap (by simp [Value.ownBlock, e])
    have hapn2 : ¬w2.heap.size = gg := fun e => hapn e.symm
    go_wp2_with fail
    refine (c_pick (w0 := w0) hCa (by omega) (by omega)).mono ?_
    rintro _ w3 ⟨j0, rfl, ⟨hi1, hi2, hi3⟩, hC3, hr3⟩
    have hi4 := hi3 (by omega)
    obtain ⟨i, rfl⟩ : ∃ i : Nat, j0 = i := ⟨j0.toNat, by omega⟩
    obtain ⟨xb, hx⟩ := get_of_lt (show i < l.length by rw [hk.out]; omega)
    obtain ⟨x1, x2⟩ := xb
    have bE3 := bE.grown hr3 (hne hge)
    have bR3 := bR.grown hr3 (hne hgb0)
    have hown3 := own_grow hoa hr3 hgbase
    have hg3 := grownBy_trans hga hr3
    have hce := own_cellsG (α := Int × Int) hk.out hown3 hx
    have d0 : w3.cell? ⟨gg, i * 2, none⟩ = some (.int .i64 x1) := hce 0 _ rfl
    have d1 : w3.cell? ⟨gg, i * 2 + 1, none⟩ = some (.int .i64 x2) := hce 1 _ rfl
    clear hi3 hr3 hce bE bR hoa hga hCa hx
    have s1 := bE3.cell 1 rfl
    have t1 := bE3.free 1
    have s2 := bE3.cell 2 rfl
    have t2 := bE3.free 2
    have s3 := bE3.cell 3 rfl
    have t3 := bE3.free 3
    have bE9 := (((bE3.set 1 (.int .i64 (i : Int))).set 2 (.int .i64 x1)).set 3 (.int .i64 x2))
    have bR9 := (((bR3.other (p := ⟨w2.heap.size, 1, none⟩) (by exact hre) (.int .i64 (i : Int))).other (p := ⟨w2.heap.size, 2, none⟩) (by exact hre) (.int .i64 x1)).other (p := ⟨w2.heap.size, 3, none⟩) (by exact hre) (.int .i64 x2))
    have C9 := (((hC3.set (p := ⟨w2.heap.size, 1, none⟩) (by show w0.heap.size ≤ w2.heap.size; omega) (by exact fun e => hge e.symm) (.int .i64 (i : Int))).set (p := ⟨w2.heap.size, 2, none⟩) (by show w0.heap.size ≤ w2.heap.size; omega) (by exact fun e => hge e.symm) (.int .i64 x1)).set (p := ⟨w2.heap.size, 3, none⟩) (by show w0.heap.size ≤ w2.heap.size; omega) (by exact fun e => hge e.symm) (.int .i64 x2))
    have G9 := (grow_set (grow_set (grow_set hg3 (p := ⟨w2.heap.size, 1, none⟩) (by show w.heap.size ≤ w2.heap.size; omega) (.int .i64 (i : Int))) (p := ⟨w2.heap.size, 2, none⟩) (by show w.heap.size ≤ w2.heap.size; omega) (.int .i64 x1)) (p := ⟨w2.heap.size, 3, none⟩) (by show w.heap.size ≤ w2.heap.size; omega) (.int .i64 x2))
    have O9 := (own_setB (own_setB (own_setB hown3 hap 1 (.int .i64 (i : Int))) hap 2 (.int .i64 x1)) hap 3 (.int .i64 x2))
    clear bE3 bR3 hC3 hg3 hown3
    go_wp2_with fail
    refine (s_one w0 _ g _ 6 (by omega) (by omega) C9).mono ?_
    rintro _ w4 ⟨b, rfl, hC4, hr4⟩
    have bE4 := bE9.grown hr4 (hne hge)
    have bR4 := bR9.grown hr4 (hne hgb0)
    have hown4 := own_grow O9 hr4 hgbase
    have hg4 := grownBy_trans G9 hr4
    clear bE9 bR9 C9 G9 O9 hr4 s1 s2 s3 t1 t2 t3 d0 d1
    cases b with
    | false =>
      go_wp2_with fail
      go_meet
      exact ⟨i, x1, x2, x, y, bE4, bR4, ⟨hC4.mono (by omega), hg4⟩⟩
    | true =>
      go_wp2_with fail
      refine (c_pick (w0 := w0) hC4 (by omega) (by omega)).mono ?_
      rintro _ w5 ⟨j0, rfl, ⟨hi1, hi2, hi3⟩, hC5, hr5⟩
      have hi4 := hi3 (by omega)
      obtain ⟨j, rfl⟩ : ∃ j : Nat, j0 = j := ⟨j0.toNat, by omega⟩
      obtain ⟨xb, hx⟩ := get_of_lt (show j < l.length by rw [hk.out]; omega)
      obtain ⟨y1, y2⟩ := xb
      have bE5 := bE4.grown hr5 (hne hge)
      have bR5 := bR4.grown hr5 (hne hgb0)
      have hown5 := own_grow hown4 hr5 hgbase
      have hg5 := grownBy_trans hg4 hr5
      have hce := own_cellsG (α := Int × Int) hk.out hown5 hx
      have d0 : w5.cell? ⟨gg, j * 2, none⟩ = some (.int .i64 y1) := hce 0 _ rfl
      have d1 : w5.cell? ⟨gg, j * 2 + 1, none⟩ = some (.int .i64 y2) := hce 1 _ rfl
      clear hi3 hr5 hce bE4 bR4 hown4 hg4 hC4 hx
      have s4 := bE5.cell 4 rfl
      have t4 := bE5.free 4
      have s5 := bE5.cell 5 rfl
      have t5 := bE5.free 5
      have bE9 := ((bE5.set 4 (.int .i64 y1)).set 5 (.int .i64 y2))
      have bR9 := ((bR5.other (p := ⟨w2.heap.size, 4, none⟩) (by exact hre) (.int .i64 y1)).other (p := ⟨w2.heap.size, 5, none⟩) (by exact hre) (.int .i64 y2))
      have C9 := ((hC5.set (p := ⟨w2.heap.size, 4, none⟩) (by show w0.heap.size ≤ w2.heap.size; omega) (by exact fun e => hge e.symm) (.int .i64 y1)).set (p := ⟨w2.heap.size, 5, none⟩) (by show w0.heap.size ≤ w2.heap.size; omega) (by exact fun e => hge e.symm) (.int .i64 y2))
      have G9 := (grow_set (grow_set hg5 (p := ⟨w2.heap.size, 4, none⟩) (by show w.heap.size ≤ w2.heap.size; omega) (.int .i64 y1)) (p := ⟨w2.heap.size, 5, none⟩) (by show w.heap.size ≤ w2.heap.size; omega) (.int .i64 y2))
      clear bE5 bR5 hC5 hg5 hown5
      go_wp2_with fail
      go_meet
      exact ⟨i, x1, x2, y1, y2, bE9, bR9, ⟨C9.mono (by omega), G9⟩⟩
  case rest =>
  clear bE bR hCa hga hoa
  obtain ⟨p, b1, b2, a1, a2, bE1, bR1, hcur1⟩ := hcut
  go_wp2_with fail
  refine (c_pick (w0 := w0) hcur1.out.1 (by omega) (by omega)).mono ?_
  rintro _ w3 ⟨u, rfl, ⟨hu1, hu2, -⟩, hC2, hr2⟩
  have bR2 := bR1.grown hr2 (hne hgb0)
  have bE2 := bE1.grown hr2 (hne hge)
  have hg2 : w.grownBy w3 (some g) := grownBy_trans hcur1.out.2 hr2
  clear hr2 bR1 bE1 hcur1
  by_cases v0 : u = 0
  · subst v0
    go_wp2_with fail
    refine (c_among (w0 := w0) hC2 (by omega) (by simp [SmV]; try omega) (by first | rfl | simp) (by omega) (by omega) (by first | rfl | simp)).mono ?_
    rintro _ w4 ⟨r, rfl, -, hC4, hr4⟩
    have bR4 := (bR2.gw ((Gw.refl _).alloc _)).grown hr4 (hne hgb0)
    have bE4 := (bE2.gw ((Gw.refl _).alloc _)).grown hr4 (hne hge)
    have hg4 : w.grownBy w4 (some g) := grownBy_trans (grow_alloc hg2 _) hr4
    have s0 := bE4.cell 0 rfl
    have t0 := bE4.free 0
    have bE9 := (bE4.set 0 (.int .i64 r))
    have bR9 := (bR4.other (p := ⟨w2.heap.size, 0, none⟩) (by exact hre) (.int .i64 r))
    have C9 := (hC4.set (p := ⟨w2.heap.size, 0, none⟩) (by show w0.heap.size ≤ w2.heap.size; omega) (by exact fun e => hge e.symm) (.int .i64 r))
    have G9 := (grow_set hg4 (p := ⟨w2.heap.size, 0, none⟩) (by show w.heap.size ≤ w2.heap.size; omega) (.int .i64 r))
    clear bE4 bR4 hC4 hg4 hr4
    have bE5 := bE9; have bR5 := bR9; have C5 := C9; have G5 := G9
    clear bE9 bR9 C9 G9
    have e0 := bE5.cell 0 rfl
    have e1 := bE5.cell 1 rfl
    have e2 := bE5.cell 2 rfl
    have e3 := bE5.cell 3 rfl
    have e4 := bE5.cell 4 rfl
    have e5 := bE5.cell 5 rfl
    have z0 := bR5.cell 0 rfl
    have y0 := bR5.free 0
    have z1 := bR5.cell 1 rfl
    have y1 := bR5.free 1
    have z2 := bR5.cell 2 rfl
    have y2 := bR5.free 2
    have z3 := bR5.cell 3 rfl
    have y3 := bR5.free 3
    have z4 := bR5.cell 4 rfl
    have y4 := bR5.free 4
    have z5 := bR5.cell 5 rfl
    have y5 := bR5.free 5
    have hq := Lib.hid ((((((bR5.set 0 (.int .i64 r)).set 1 (.int .i64 p)).set 2 (.int .i64 b1)).set 3 (.int .i64 b2)).set 4 (.int .i64 a1)).set 5 (.int .i64 a2))
    have hC9 := Lib.hid ((((((C5.set (p := ⟨w.heap.size, 0, none⟩) (by exact hw0) (by exact fun e => hgb0 e.symm) (.int .i64 r)).set (p := ⟨w.heap.size, 1, none⟩) (by exact hw0) (by exact fun e => hgb0 e.symm) (.int .i64 p)).set (p := ⟨w.heap.size, 2, none⟩) (by exact hw0) (by exact fun e => hgb0 e.symm) (.int .i64 b1)).set (p := ⟨w.heap.size, 3, none⟩) (by exact hw0) (by exact fun e => hgb0 e.symm) (.int .i64 b2)).set (p := ⟨w.heap.size, 4, none⟩) (by exact hw0) (by exact fun e => hgb0 e.symm) (.int .i64 a1)).set (p := ⟨w.heap.size, 5, none⟩) (by exact hw0) (by exact fun e => hgb0 e.symm) (.int .i64 a2))
    have hg9 := Lib.hid (grow_set (grow_set (grow_set (grow_set (grow_set (grow_set G5 (p := ⟨w.heap.size, 0, none⟩) (Nat.le_refl _) (.int .i64 r)) (p := ⟨w.heap.size, 1, none⟩) (Nat.le_refl _) (.int .i64 p)) (p := ⟨w.heap.size, 2, none⟩) (Nat.le_refl _) (.int .i64 b1)) (p := ⟨w.heap.size, 3, none⟩) (Nat.le_refl _) (.int .i64 b2)) (p := ⟨w.heap.size, 4, none⟩) (Nat.le_refl _) (.int .i64 a1)) (p := ⟨w.heap.size, 5, none⟩) (Nat.le_refl _) (.int .i64 a2))
    go_wp2_with fail
    have q0 := hq.out.cell 0 rfl
    have q1 := hq.out.cell 1 rfl
    have q2 := hq.out.cell 2 rfl
    have q3 := hq.out.cell 3 rfl
    have q4 := hq.out.cell 4 rfl
    have q5 := hq.out.cell 5 rfl
    exact bodyPost_ret (v := .agg #[.int .i64 r, .int .i64 p, .int .i64 b1, .int .i64 b2, .int .i64 a1, .int .i64 a2]) (by simp [results, Try.results26, go_sem, q0, q1, q2, q3, q4, q5]) rfl ⟨r, p, b1, b2, a1, a2, rfl, hC9.out.mono (by omega), hg9.out⟩
  have h0 : (u == 0) = false := by simp [v0]
  by_cases v1 : u = 1
  · subst v1
    go_wp2_with fail
    refine (c_among (w0 := w0) hC2 (by omega) (by simp [SmV]; try omega) (by first | rfl | simp) (by omega) (by omega) (by first | rfl | simp)).mono ?_
    rintro _ w4 ⟨r, rfl, -, hC4, hr4⟩
    have bR4 := (bR2.gw ((Gw.refl _).alloc _)).grown hr4 (hne hgb0)
    have bE4 := (bE2.gw ((Gw.refl _).alloc _)).grown hr4 (hne hge)
    have hg4 : w.grownBy w4 (some g) := grownBy_trans (grow_alloc hg2 _) hr4
    have s1 := bE4.cell 1 rfl
    have t1 := bE4.free 1
    have bE9 := (bE4.set 1 (.int .i64 r))
    have bR9 := (bR4.other (p := ⟨w2.heap.size, 1, none⟩) (by exact hre) (.int .i64 r))
    have C9 := (hC4.set (p := ⟨w2.heap.size, 1, none⟩) (by show w0.heap.size ≤ w2.heap.size; omega) (by exact fun e => hge e.symm) (.int .i64 r))
    have G9 := (grow_set hg4 (p := ⟨w2.heap.size, 1, none⟩) (by show w.heap.size ≤ w2.heap.size; omega) (.int .i64 r))
    clear bE4 bR4 hC4 hg4 hr4
    have bE5 := bE9; have bR5 := bR9; have C5 := C9; have G5 := G9
    clear bE9 bR9 C9 G9
    have e0 := bE5.cell 0 rfl
    have e1 := bE5.cell 1 rfl
    have e2 := bE5.cell 2 rfl
    have e3 := bE5.cell 3 rfl
    have e4 := bE5.cell 4 rfl
    have e5 := bE5.cell 5 rfl
    have z0 := bR5.cell 0 rfl
    have y0 := bR5.free 0
    have z1 := bR5.cell 1 rfl
    have y1 := bR5.free 1
    have z2 := bR5.cell 2 rfl
    have y2 := bR5.free 2
    have z3 := bR5.cell 3 rfl
    have y3 := bR5.free 3
    have z4 := bR5.cell 4 rfl
    have y4 := bR5.free 4
    have z5 := bR5.cell 5 rfl
    have y5 := bR5.free 5
    have hq := Lib.hid ((((((bR5.set 0 (.int .i64 (1 + v))).set 1 (.int .i64 r)).set 2 (.int .i64 b1)).set 3 (.int .i64 b2)).set 4 (.int .i64 a1)).set 5 (.int .i64 a2))
    have hC9 := Lib.hid ((((((C5.set (p := ⟨w.heap.size, 0, none⟩) (by exact hw0) (by exact fun e => hgb0 e.symm) (.int .i64 (1 + v))).set (p := ⟨w.heap.size, 1, none⟩) (by exact hw0) (by exact fun e => hgb0 e.symm) (.int .i64 r)).set (p := ⟨w.heap.size, 2, none⟩) (by exact hw0) (by exact fun e => hgb0 e.symm) (.int .i64 b1)).set (p := ⟨w.heap.size, 3, none⟩) (by exact hw0) (by exact fun e => hgb0 e.symm) (.int .i64 b2)).set (p := ⟨w.heap.size, 4, none⟩) (by exact hw0) (by exact fun e => hgb0 e.symm) (.int .i64 a1)).set (p := ⟨w.heap.size, 5, none⟩) (by exact hw0) (by exact fun e => hgb0 e.symm) (.int .i64 a2))
    have hg9 := Lib.hid (grow_set (grow_set (grow_set (grow_set (grow_set (grow_set G5 (p := ⟨w.heap.size, 0, none⟩) (Nat.le_refl _) (.int .i64 (1 + v))) (p := ⟨w.heap.size, 1, none⟩) (Nat.le_refl _) (.int .i64 r)) (p := ⟨w.heap.size, 2, none⟩) (Nat.le_refl _) (.int .i64 b1)) (p := ⟨w.heap.size, 3, none⟩) (Nat.le_refl _) (.int .i64 b2)) (p := ⟨w.heap.size, 4, none⟩) (Nat.le_refl _) (.int .i64 a1)) (p := ⟨w.heap.size, 5, none⟩) (Nat.le_refl _) (.int .i64 a2))
    go_wp2_with fail
    have q0 := hq.out.cell 0 rfl
    have q1 := hq.out.cell 1 rfl
    have q2 := hq.out.cell 2 rfl
    have q3 := hq.out.cell 3 rfl
    have q4 := hq.out.cell 4 rfl
    have q5 := hq.out.cell 5 rfl
    exact bodyPost_ret (v := .agg #[.int .i64 (1 + v), .int .i64 r, .int .i64 b1, .int .i64 b2, .int .i64 a1, .int .i64 a2]) (by simp [results, Try.results26, go_sem, q0, q1, q2, q3, q4, q5]) rfl ⟨1 + v, r, b1, b2, a1, a2, rfl, hC9.out.mono (by omega), hg9.out⟩
  have h1 : (u == 1) = false := by simp [v1]
  by_cases v2 : u = 2
  · subst v2
    go_wp2_with fail
    refine (s_anySpot (w0 := w0) hC2 (by omega)).mono ?_
    rintro _ w4 ⟨r, s, rfl, -, hC4, hr4⟩
    have bR4 := bR2.grown hr4 (hne hgb0)
    have bE4 := bE2.grown hr4 (hne hge)
    have hg4 : w.grownBy w4 (some g) := grownBy_trans hg2 hr4
    have s2 := bE4.cell 2 rfl
    have t2 := bE4.free 2
    have s3 := bE4.cell 3 rfl
    have t3 := bE4.free 3
    have bE9 := ((bE4.set 2 (.int .i64 r)).set 3 (.int .i64 s))
    have bR9 := ((bR4.other (p := ⟨w2.heap.size, 2, none⟩) (by exact hre) (.int .i64 r)).other (p := ⟨w2.heap.size, 3, none⟩) (by exact hre) (.int .i64 s))
    have C9 := ((hC4.set (p := ⟨w2.heap.size, 2, none⟩) (by show w0.heap.size ≤ w2.heap.size; omega) (by exact fun e => hge e.symm) (.int .i64 r)).set (p := ⟨w2.heap.size, 3, none⟩) (by show w0.heap.size ≤ w2.heap.size; omega) (by exact fun e => hge e.symm) (.int .i64 s))
    have G9 := (grow_set (grow_set hg4 (p := ⟨w2.heap.size, 2, none⟩) (by show w.heap.size ≤ w2.heap.size; omega) (.int .i64 r)) (p := ⟨w2.heap.size, 3, none⟩) (by show w.heap.size ≤ w2.heap.size; omega) (.int .i64 s))
    clear bE4 bR4 hC4 hg4 hr4
    have bE5 := bE9; have bR5 := bR9; have C5 := C9; have G5 := G9
    clear bE9 bR9 C9 G9
    have e0 := bE5.cell 0 rfl
    have e1 := bE5.cell 1 rfl
    have e2 := bE5.cell 2 rfl
    have e3 := bE5.cell 3 rfl
    have e4 := bE5.cell 4 rfl
    have e5 := bE5.cell 5 rfl
    have z0 := bR5.cell 0 rfl
    have y0 := bR5.free 0
    have z1 := bR5.cell 1 rfl
    have y1 := bR5.free 1
    have z2 := bR5.cell 2 rfl
    have y2 := bR5.free 2
    have z3 := bR5.cell 3 rfl
    have y3 := bR5.free 3
    have z4 := bR5.cell 4 rfl
    have y4 := bR5.free 4
    have z5 := bR5.cell 5 rfl
    have y5 := bR5.free 5
    have hq := Lib.hid ((((((bR5.set 0 (.int .i64 (1 + v))).set 1 (.int .i64 p)).set 2 (.int .i64 r)).set 3 (.int .i64 s)).set 4 (.int .i64 a1)).set 5 (.int .i64 a2))
    have hC9 := Lib.hid ((((((C5.set (p := ⟨w.heap.size, 0, none⟩) (by exact hw0) (by exact fun e => hgb0 e.symm) (.int .i64 (1 + v))).set (p := ⟨w.heap.size, 1, none⟩) (by exact hw0) (by exact fun e => hgb0 e.symm) (.int .i64 p)).set (p := ⟨w.heap.size, 2, none⟩) (by exact hw0) (by exact fun e => hgb0 e.symm) (.int .i64 r)).set (p := ⟨w.heap.size, 3, none⟩) (by exact hw0) (by exact fun e => hgb0 e.symm) (.int .i64 s)).set (p := ⟨w.heap.size, 4, none⟩) (by exact hw0) (by exact fun e => hgb0 e.symm) (.int .i64 a1)).set (p := ⟨w.heap.size, 5, none⟩) (by exact hw0) (by exact fun e => hgb0 e.symm) (.int .i64 a2))
    have hg9 := Lib.hid (grow_set (grow_set (grow_set (grow_set (grow_set (grow_set G5 (p := ⟨w.heap.size, 0, none⟩) (Nat.le_refl _) (.int .i64 (1 + v))) (p := ⟨w.heap.size, 1, none⟩) (Nat.le_refl _) (.int .i64 p)) (p := ⟨w.heap.size, 2, none⟩) (Nat.le_refl _) (.int .i64 r)) (p := ⟨w.heap.size, 3, none⟩) (Nat.le_refl _) (.int .i64 s)) (p := ⟨w.heap.size, 4, none⟩) (Nat.le_refl _) (.int .i64 a1)) (p := ⟨w.heap.size, 5, none⟩) (Nat.le_refl _) (.int .i64 a2))
    go_wp2_with fail
    have q0 := hq.out.cell 0 rfl
    have q1 := hq.out.cell 1 rfl
    have q2 := hq.out.cell 2 rfl
    have q3 := hq.out.cell 3 rfl
    have q4 := hq.out.cell 4 rfl
    have q5 := hq.out.cell 5 rfl
    exact bodyPost_ret (v := .agg #[.int .i64 (1 + v), .int .i64 p, .int .i64 r, .int .i64 s, .int .i64 a1, .int .i64 a2]) (by simp [results, Try.results26, go_sem, q0, q1, q2, q3, q4, q5]) rfl ⟨1 + v, p, r, s, a1, a2, rfl, hC9.out.mono (by omega), hg9.out⟩
  have h2 : (u == 2) = false := by simp [v2]
  by_cases v3 : u = 3
  · subst v3
    go_wp2_with fail
    refine (s_anySpot (w0 := w0) hC2 (by omega)).mono ?_
    rintro _ w4 ⟨r, s, rfl, -, hC4, hr4⟩
    have bR4 := bR2.grown hr4 (hne hgb0)
    have bE4 := bE2.grown hr4 (hne hge)
    have hg4 : w.grownBy w4 (some g) := grownBy_trans hg2 hr4
    have s4 := bE4.cell 4 rfl
    have t4 := bE4.free 4
    have s5 := bE4.cell 5 rfl
    have t5 := bE4.free 5
    have bE9 := ((bE4.set 4 (.int .i64 r)).set 5 (.int .i64 s))
    have bR9 := ((bR4.other (p := ⟨w2.heap.size, 4, none⟩) (by exact hre) (.int .i64 r)).other (p := ⟨w2.heap.size, 5, none⟩) (by exact hre) (.int .i64 s))
    have C9 := ((hC4.set (p := ⟨w2.heap.size, 4, none⟩) (by show w0.heap.size ≤ w2.heap.size; omega) (by exact fun e => hge e.symm) (.int .i64 r)).set (p := ⟨w2.heap.size, 5, none⟩) (by show w0.heap.size ≤ w2.heap.size; omega) (by exact fun e => hge e.symm) (.int .i64 s))
    have G9 := (grow_set (grow_set hg4 (p := ⟨w2.heap.size, 4, none⟩) (by show w.heap.size ≤ w2.heap.size; omega) (.int .i64 r)) (p := ⟨w2.heap.size, 5, none⟩) (by show w.heap.size ≤ w2.heap.size; omega) (.int .i64 s))
    clear bE4 bR4 hC4 hg4 hr4
    have bE5 := bE9; have bR5 := bR9; have C5 := C9; have G5 := G9
    clear bE9 bR9 C9 G9
    have e0 := bE5.cell 0 rfl
    have e1 := bE5.cell 1 rfl
    have e2 := bE5.cell 2 rfl
    have e3 := bE5.cell 3 rfl
    have e4 := bE5.cell 4 rfl
    have e5 := bE5.cell 5 rfl
    have z0 := bR5.cell 0 rfl
    have y0 := bR5.free 0
    have z1 := bR5.cell 1 rfl
    have y1 := bR5.free 1
    have z2 := bR5.cell 2 rfl
    have y2 := bR5.free 2
    have z3 := bR5.cell 3 rfl
    have y3 := bR5.free 3
    have z4 := bR5.cell 4 rfl
    have y4 := bR5.free 4
    have z5 := bR5.cell 5 rfl
    have y5 := bR5.free 5
    have hq := Lib.hid ((((((bR5.set 0 (.int .i64 (1 + v))).set 1 (.int .i64 p)).set 2 (.int .i64 b1)).set 3 (.int .i64 b2)).set 4 (.int .i64 r)).set 5 (.int .i64 s))
    have hC9 := Lib.hid ((((((C5.set (p := ⟨w.heap.size, 0, none⟩) (by exact hw0) (by exact fun e => hgb0 e.symm) (.int .i64 (1 + v))).set (p := ⟨w.heap.size, 1, none⟩) (by exact hw0) (by exact fun e => hgb0 e.symm) (.int .i64 p)).set (p := ⟨w.heap.size, 2, none⟩) (by exact hw0) (by exact fun e => hgb0 e.symm) (.int .i64 b1)).set (p := ⟨w.heap.size, 3, none⟩) (by exact hw0) (by exact fun e => hgb0 e.symm) (.int .i64 b2)).set (p := ⟨w.heap.size, 4, none⟩) (by exact hw0) (by exact fun e => hgb0 e.symm) (.int .i64 r)).set (p := ⟨w.heap.size, 5, none⟩) (by exact hw0) (by exact fun e => hgb0 e.symm) (.int .i64 s))
    have hg9 := Lib.hid (grow_set (grow_set (grow_set (grow_set (grow_set (grow_set G5 (p := ⟨w.heap.size, 0, none⟩) (Nat.le_refl _) (.int .i64 (1 + v))) (p := ⟨w.heap.size, 1, none⟩) (Nat.le_refl _) (.int .i64 p)) (p := ⟨w.heap.size, 2, none⟩) (Nat.le_refl _) (.int .i64 b1)) (p := ⟨w.heap.size, 3, none⟩) (Nat.le_refl _) (.int .i64 b2)) (p := ⟨w.heap.size, 4, none⟩) (Nat.le_refl _) (.int .i64 r)) (p := ⟨w.heap.size, 5, none⟩) (Nat.le_refl _) (.int .i64 s))
    go_wp2_with fail
    have q0 := hq.out.cell 0 rfl
    have q1 := hq.out.cell 1 rfl
    have q2 := hq.out.cell 2 rfl
    have q3 := hq.out.cell 3 rfl
    have q4 := hq.out.cell 4 rfl
    have q5 := hq.out.cell 5 rfl
    exact bodyPost_ret (v := .agg #[.int .i64 (1 + v), .int .i64 p, .int .i64 b1, .int .i64 b2, .int .i64 r, .int .i64 s]) (by simp [results, Try.results26, go_sem, q0, q1, q2, q3, q4, q5]) rfl ⟨1 + v, p, b1, b2, r, s, rfl, hC9.out.mono (by omega), hg9.out⟩
  have h3 : (u == 3) = false := by simp [v3]
  have e0 := bE2.cell 0 rfl
  have e1 := bE2.cell 1 rfl
  have e2 := bE2.cell 2 rfl
  have e3 := bE2.cell 3 rfl
  have e4 := bE2.cell 4 rfl
  have e5 := bE2.cell 5 rfl
  have z0 := bR2.cell 0 rfl
  have y0 := bR2.free 0
  have z1 := bR2.cell 1 rfl
  have y1 := bR2.free 1
  have z2 := bR2.cell 2 rfl
  have y2 := bR2.free 2
  have z3 := bR2.cell 3 rfl
  have y3 := bR2.free 3
  have z4 := bR2.cell 4 rfl
  have y4 := bR2.free 4
  have z5 := bR2.cell 5 rfl
  have y5 := bR2.free 5
  have hq := Lib.hid ((((((bR2.set 0 (.int .i64 (1 + v))).set 1 (.int .i64 p)).set 2 (.int .i64 b1)).set 3 (.int .i64 b2)).set 4 (.int .i64 a1)).set 5 (.int .i64 a2))
  have hC9 := Lib.hid ((((((hC2.set (p := ⟨w.heap.size, 0, none⟩) (by exact hw0) (by exact fun e => hgb0 e.symm) (.int .i64 (1 + v))).set (p := ⟨w.heap.size, 1, none⟩) (by exact hw0) (by exact fun e => hgb0 e.symm) (.int .i64 p)).set (p := ⟨w.heap.size, 2, none⟩) (by exact hw0) (by exact fun e => hgb0 e.symm) (.int .i64 b1)).set (p := ⟨w.heap.size, 3, none⟩) (by exact hw0) (by exact fun e => hgb0 e.symm) (.int .i64 b2)).set (p := ⟨w.heap.size, 4, none⟩) (by exact hw0) (by exact fun e => hgb0 e.symm) (.int .i64 a1)).set (p := ⟨w.heap.size, 5, none⟩) (by exact hw0) (by exact fun e => hgb0 e.symm) (.int .i64 a2))
  have hg9 := Lib.hid (grow_set (grow_set (grow_set (grow_set (grow_set (grow_set hg2 (p := ⟨w.heap.size, 0, none⟩) (Nat.le_refl _) (.int .i64 (1 + v))) (p := ⟨w.heap.size, 1, none⟩) (Nat.le_refl _) (.int .i64 p)) (p := ⟨w.heap.size, 2, none⟩) (Nat.le_refl _) (.int .i64 b1)) (p := ⟨w.heap.size, 3, none⟩) (Nat.le_refl _) (.int .i64 b2)) (p := ⟨w.heap.size, 4, none⟩) (Nat.le_refl _) (.int .i64 a1)) (p := ⟨w.heap.size, 5, none⟩) (Nat.le_refl _) (.int .i64 a2))
  go_wp2_with fail
  have q0 := hq.out.cell 0 rfl
  have q1 := hq.out.cell 1 rfl
  have q2 := hq.out.cell 2 rfl
  have q3 := hq.out.cell 3 rfl
  have q4 := hq.out.cell 4 rfl
  have q5 := hq.out.cell 5 rfl
  exact bodyPost_ret (v := .agg #[.int .i64 (1 + v), .int .i64 p, .int .i64 b1, .int .i64 b2, .int .i64 a1, .int .i64 a2]) (by simp [results, Try.results26, go_sem, q0, q1, q2, q3, q4, q5]) rfl ⟨1 + v, p, b1, b2, a1, a2, rfl, hC9.out.mono (by omega), hg9.out⟩
end Go.Proofs.Ytoofpajeogllhaa
