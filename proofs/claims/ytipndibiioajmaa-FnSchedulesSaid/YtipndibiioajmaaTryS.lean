/-
  The region of the reference's search that looks for one more: whatever its order.
-/
import Derived.Test.YtipndibiioajmaaTryR
namespace Go.Proofs.Ytipndibiioajmaa
open Go.RowKit Go.ChangeShapes Go.WideShapes
set_option linter.unusedVariables false

structure RD (W w : World) (g : Nat) (A : Option Addr) (cA nW : Nat) (D : Option Addr) (n cd : Nat) (r1 r2 : Int) (x : B4) (ok : Bool) (l0 l1 l2 l3 l4 l5 l6 l7 l8 l9 l10 l11 l12 : Bool) (v0 v1 v2 v3 v4 v5 v6 v7 v8 v9 v10 v12 : Value) : Prop where
  gw : Gw W w
  c0 : l0 = true → v0 = .pointer (some ⟨g, 0, none⟩)
  c1 : l1 = true → v1 = .pointer (some ⟨g, 0, none⟩)
  c2 : l2 = true → v2 = .pointer (some ⟨g, 0, none⟩)
  c3 : l3 = true → v3 = .slice A nW cA
  c4 : l4 = true → v4 = .slice D n cd
  c5 : l5 = true → v5 = .agg #[.int .i64 r1, .int .i64 r2]
  c6 : l6 = true → v6 = (.tuple #[.agg #[.int .i64 x.1, .int .i64 x.2.1, .int .i64 x.2.2.1, .int .i64 x.2.2.2], .bool ok])
  c7 : l7 = true → v7 = (.tuple #[.agg #[.int .i64 x.1, .int .i64 x.2.1, .int .i64 x.2.2.1, .int .i64 x.2.2.2], .bool ok])
  c8 : l8 = true → v8 = (.agg #[.int .i64 x.1, .int .i64 x.2.1, .int .i64 x.2.2.1, .int .i64 x.2.2.2])
  c9 : l9 = true → v9 = .bool ok
  c10 : l10 = true → l11 = false → ∃ h, v10 = .pointer (some ⟨h, 0, none⟩) ∧ W.heap.size ≤ h ∧ BoxR w h #[.int .i64 0, .int .i64 0, .int .i64 0, .int .i64 0] 88
  c11 : l11 = true → ∃ h, v10 = .pointer (some ⟨h, 0, none⟩) ∧ W.heap.size ≤ h ∧ BoxR w h (Flat.cells x).toArray 88
  c12 : l12 = true → v12 = .bool ok
  d11 : l11 = true → l10 = true
variable {W w w' : World} {g cA nW n cd : Nat} {A D : Option Addr} {r1 r2 : Int} {x : B4} {ok : Bool} {l0 l1 l2 l3 l4 l5 l6 l7 l8 l9 l10 l11 l12 : Bool} {v0 v1 v2 v3 v4 v5 v6 v7 v8 v9 v10 v12 : Value}
theorem RD.mono (h : RD W w g A cA nW D n cd r1 r2 x ok l0 l1 l2 l3 l4 l5 l6 l7 l8 l9 l10 l11 l12 v0 v1 v2 v3 v4 v5 v6 v7 v8 v9 v10 v12) (hg : Gw w w') : RD W w' g A cA nW D n cd r1 r2 x ok l0 l1 l2 l3 l4 l5 l6 l7 l8 l9 l10 l11 l12 v0 v1 v2 v3 v4 v5 v6 v7 v8 v9 v10 v12 :=
  { h with
    gw := h.gw.trans hg
    c10 := fun a b => by obtain ⟨i, e, q, r⟩ := h.c10 a b; exact ⟨i, e, q, r.gw hg⟩
    c11 := fun a => by obtain ⟨i, e, q, r⟩ := h.c11 a; exact ⟨i, e, q, r.gw hg⟩ }

set_option maxHeartbeats 16000000 in
set_option maxRecDepth 100000 in
theorem try_region9 {Q : Exit → Act → World → Prop} {s1 s3 s4 s5 s6 s8 s9 s10 s11 s12 s13 s14 s15 s16 s17 s18 s19 s20 s21 s22 s23 s24 s25 s26 s27 s28 s29 s30 s31 s32 s33 s34 s35 s36 s37 s38 s39 s40 s41 s42 s43 s44 s45 s46 s47 s48 s49 s50 s51 s52 s53 s54 s55 s56 s57 s58 s59 s60 s61 s62 s63 s64 s65 s66 s67 s68 s69 s70 s71 s72 s73 s74 s75 s76 s77 s78 s79 s80 : Value} (g : Nat) (A : Option Addr) (cA nW : Nat) (D : Option Addr) (cd n : Nat) (hr : Nat) (r1 r2 : Int) (x : B4) (ok : Bool) (W : World)
    (hA : W.cell? ⟨g, 0, none⟩ = some (.slice A nW cA)) (hg : g < W.heap.size) (hbr : BoxR W hr #[.int .i64 r1, .int .i64 r2] 59)
    (hcall : ∀ w1, Gw W w1 → Calls Try.prog 68 #[.slice A nW cA, .slice D n cd, .agg #[.int .i64 r1, .int .i64 r2]] w1 fun e w' => e = .returned (.tuple #[.agg #[.int .i64 x.1, .int .i64 x.2.1, .int .i64 x.2.2.1, .int .i64 x.2.2.2], .bool ok]) ∧ Gw w1 w')
    (hQ : ∀ (t0 t1 t2 t3 t4 t5 t6 t7 t8 t9 : Value) (h : Nat) (w' : World), Gw W w' → W.heap.size ≤ h → BoxR w' h (Flat.cells x).toArray 88 → Q .normal ⟨#[.pointer (some ⟨g, 0, none⟩), s1, .slice D n cd, s3, s4, s5, s6, .pointer (some ⟨hr, 0, none⟩), .pointer (some ⟨h, 0, none⟩), .bool ok, s10, s11, s12, s13, s14, s15, s16, s17, s18, s19, s20, s21, s22, s23, s24, s25, s26, s27, s28, s29, s30, s31, s32, s33, s34, s35, s36, s37, s38, s39, s40, s41, s42, s43, s44, s45, s46, s47, s48, s49, s50, s51, s52, s53, s54, s55, t7, t0, t1, t2, t3, t4, t5, t6, t8, t9, s66, s67, s68, s69, s70, s71, s72, s73, s74, s75, s76, s77, s78, s79, s80], []⟩ w') :
    (regC 9 (Try.f40.body.getD .skip)).wp Try.prog Q ⟨#[.pointer (some ⟨g, 0, none⟩), s1, .slice D n cd, s3, s4, s5, s6, .pointer (some ⟨hr, 0, none⟩), s8, s9, s10, s11, s12, s13, s14, s15, s16, s17, s18, s19, s20, s21, s22, s23, s24, s25, s26, s27, s28, s29, s30, s31, s32, s33, s34, s35, s36, s37, s38, s39, s40, s41, s42, s43, s44, s45, s46, s47, s48, s49, s50, s51, s52, s53, s54, s55, s56, s57, s58, s59, s60, s61, s62, s63, s64, s65, s66, s67, s68, s69, s70, s71, s72, s73, s74, s75, s76, s77, s78, s79, s80], []⟩ W := by
  have HC := Lib.hid hcall
  have HQ := Lib.hid hQ
  clear hcall hQ
  obtain ⟨x1, x2, x3, x4⟩ := x
  conv => arg 2; whnf
  conv => arg 4; zeta
  refine wp_region_inv (fun l a w => ∃ (l0 l1 l2 l3 l4 l5 l6 l7 l8 l9 l10 l11 l12 : Bool) (v0 v1 v2 v3 v4 v5 v6 v7 v8 v9 v10 v12 : Value), a = ⟨#[.pointer (some ⟨g, 0, none⟩), s1, .slice D n cd, s3, s4, s5, s6, .pointer (some ⟨hr, 0, none⟩), v10, v12, s10, s11, s12, s13, s14, s15, s16, s17, s18, s19, s20, s21, s22, s23, s24, s25, s26, s27, s28, s29, s30, s31, s32, s33, s34, s35, s36, s37, s38, s39, s40, s41, s42, s43, s44, s45, s46, s47, s48, s49, s50, s51, s52, s53, s54, s55, v7, v0, v1, v2, v3, v4, v5, v6, v8, v9, s66, s67, s68, s69, s70, s71, s72, s73, s74, s75, s76, s77, s78, s79, s80], []⟩ ∧ l = #[l0, l1, l2, l3, l4, l5, l6, l7, l8, l9, l10, l11, l12] ∧ RD W w g A cA nW D n cd r1 r2 (x1, x2, x3, x4) ok l0 l1 l2 l3 l4 l5 l6 l7 l8 l9 l10 l11 l12 v0 v1 v2 v3 v4 v5 v6 v7 v8 v9 v10 v12) (by kernel_rfl) ?_ ?_ ?_ ?_
  · rintro l a w ⟨l0, l1, l2, l3, l4, l5, l6, l7, l8, l9, l10, l11, l12, v0, v1, v2, v3, v4, v5, v6, v7, v8, v9, v10, v12, -, rfl, -⟩; rfl
  · refine ⟨false, false, false, false, false, false, false, false, false, false, false, false, false, s57, s58, s59, s60, s61, s62, s63, s56, s64, s65, s8, s9, rfl, rfl, ?_⟩
    constructor
    case gw => exact (Gw.refl W).drew
    all_goals (intro hh; exact absurd hh (by decide))
  · rintro l a w i ⟨l0, l1, l2, l3, l4, l5, l6, l7, l8, l9, l10, l11, l12, v0, v1, v2, v3, v4, v5, v6, v7, v8, v9, v10, v12, rfl, rfl, hI⟩ hsz hun hdep
    have hsz : i < 13 := hsz
    have hcs : i = 0 ∨ i = 1 ∨ i = 2 ∨ i = 3 ∨ i = 4 ∨ i = 5 ∨ i = 6 ∨ i = 7 ∨ i = 8 ∨ i = 9 ∨ i = 10 ∨ i = 11 ∨ i = 12 := by omega
    rcases hcs with rfl | rfl | rfl | rfl | rfl | rfl | rfl | rfl | rfl | rfl | rfl | rfl | rfl
    · obtain rfl : l0 = false := hun
      refine wpOp_step (by rfl) (fun K' hK => ?_)
      go_simp
      refine hK _ _ ⟨true, l1, l2, l3, l4, l5, l6, l7, l8, l9, l10, l11, l12, _, _, _, _, _, _, _, _, _, _, _, _, rfl, rfl, ?_⟩
      exact { hI with c0 := fun _ => rfl }
    · obtain rfl : l1 = false := hun
      obtain rfl : l0 = true := hdep 0 (by decide)
      refine wpOp_step (by rfl) (fun K' hK => ?_)
      obtain rfl := hI.c0 rfl
      go_simp
      refine hK _ _ ⟨true, true, l2, l3, l4, l5, l6, l7, l8, l9, l10, l11, l12, _, _, _, _, _, _, _, _, _, _, _, _, rfl, rfl, ?_⟩
      exact { hI with c1 := fun _ => rfl }
    · obtain rfl : l2 = false := hun
      obtain rfl : l1 = true := hdep 1 (by decide)
      refine wpOp_step (by rfl) (fun K' hK => ?_)
      obtain rfl := hI.c1 rfl
      go_simp
      refine hK _ _ ⟨l0, true, true, l3, l4, l5, l6, l7, l8, l9, l10, l11, l12, _, _, _, _, _, _, _, _, _, _, _, _, rfl, rfl, ?_⟩
      exact { hI with c2 := fun _ => rfl }
    · obtain rfl : l3 = false := hun
      obtain rfl : l2 = true := hdep 2 (by decide)
      refine wpOp_step (by rfl) (fun K' hK => ?_)
      obtain rfl := hI.c2 rfl
      have z0 : w.cell? ⟨g, 0, none⟩ = some (.slice A nW cA) := (hI.gw.cells g 0 hg).trans hA
      go_simp
      refine hK _ _ ⟨l0, l1, true, true, l4, l5, l6, l7, l8, l9, l10, l11, l12, _, _, _, _, _, _, _, _, _, _, _, _, rfl, rfl, ?_⟩
      exact { hI with c3 := fun _ => rfl }
    · obtain rfl : l4 = false := hun
      refine wpOp_step (by rfl) (fun K' hK => ?_)
      go_simp
      refine hK _ _ ⟨l0, l1, l2, l3, true, l5, l6, l7, l8, l9, l10, l11, l12, _, _, _, _, _, _, _, _, _, _, _, _, rfl, rfl, ?_⟩
      exact { hI with c4 := fun _ => rfl }
    · obtain rfl : l5 = false := hun
      refine wpOp_step (by rfl) (fun K' hK => ?_)
      have bx := hbr.gw hI.gw
      have z0 := bx.cell 0 rfl
      have z1 := bx.cell 1 rfl
      go_simp
      refine hK _ _ ⟨l0, l1, l2, l3, l4, true, l6, l7, l8, l9, l10, l11, l12, _, _, _, _, _, _, _, _, _, _, _, _, rfl, rfl, ?_⟩
      exact { hI with c5 := fun _ => rfl }
    · obtain rfl : l6 = false := hun
      obtain rfl : l3 = true := hdep 3 (by decide)
      obtain rfl : l4 = true := hdep 4 (by decide)
      obtain rfl : l5 = true := hdep 5 (by decide)
      refine wpOp_step (by rfl) (fun K' hK => ?_)
      obtain rfl := hI.c3 rfl
      obtain rfl := hI.c4 rfl
      obtain rfl := hI.c5 rfl
      go_simp
      go_at_call 68
      refine (HC.out w hI.gw).mono ?_
      rintro _ w2 ⟨rfl, hb⟩
      refine hK _ _ ⟨l0, l1, l2, true, true, true, true, l7, l8, l9, l10, l11, l12, _, _, _, _, _, _, _, _, _, _, _, _, rfl, rfl, ?_⟩
      exact { (hI.mono hb) with c6 := fun _ => rfl }
    · obtain rfl : l7 = false := hun
      obtain rfl : l6 = true := hdep 6 (by decide)
      refine wpOp_step (by rfl) (fun K' hK => ?_)
      obtain rfl := hI.c6 rfl
      go_simp
      refine hK _ _ ⟨l0, l1, l2, l3, l4, l5, true, true, l8, l9, l10, l11, l12, _, _, _, _, _, _, _, _, _, _, _, _, rfl, rfl, ?_⟩
      exact { hI with c7 := fun _ => rfl }
    · obtain rfl : l8 = false := hun
      obtain rfl : l7 = true := hdep 7 (by decide)
      refine wpOp_step (by rfl) (fun K' hK => ?_)
      obtain rfl := hI.c7 rfl
      go_simp
      refine hK _ _ ⟨l0, l1, l2, l3, l4, l5, l6, true, true, l9, l10, l11, l12, _, _, _, _, _, _, _, _, _, _, _, _, rfl, rfl, ?_⟩
      exact { hI with c8 := fun _ => rfl }
    · obtain rfl : l9 = false := hun
      obtain rfl : l7 = true := hdep 7 (by decide)
      refine wpOp_step (by rfl) (fun K' hK => ?_)
      obtain rfl := hI.c7 rfl
      go_simp
      refine hK _ _ ⟨l0, l1, l2, l3, l4, l5, l6, true, l8, true, l10, l11, l12, _, _, _, _, _, _, _, _, _, _, _, _, rfl, rfl, ?_⟩
      exact { hI with c9 := fun _ => rfl }
    · obtain rfl : l10 = false := hun
      refine wpOp_step (by rfl) (fun K' hK => ?_)
      go_simp
      refine hK _ _ ⟨l0, l1, l2, l3, l4, l5, l6, l7, l8, l9, true, l11, l12, _, _, _, _, _, _, _, _, _, _, _, _, rfl, rfl, ?_⟩
      exact { (hI.mono ((Gw.refl w).alloc _)) with c10 := fun _ _ => ⟨w.heap.size, rfl, hI.gw.size, BoxR.new w _ _⟩, c11 := fun a => absurd (hI.d11 a) (by decide), d11 := fun _ => rfl }
    · obtain rfl : l11 = false := hun
      obtain rfl : l8 = true := hdep 8 (by decide)
      obtain rfl : l10 = true := hdep 10 (by decide)
      refine wpOp_step (by rfl) (fun K' hK => ?_)
      obtain ⟨h, rfl, hh, hb⟩ := hI.c10 rfl rfl
      obtain rfl := hI.c8 rfl
      have z0 := hb.cell 0 rfl
      have z1 := hb.cell 1 rfl
      have z2 := hb.cell 2 rfl
      have z3 := hb.cell 3 rfl
      have y0 := hb.free 0
      have y1 := hb.free 1
      have y2 := hb.free 2
      have y3 := hb.free 3
      have hq := (((hb.set 0 (.int .i64 x1)).set 1 (.int .i64 x2)).set 2 (.int .i64 x3)).set 3 (.int .i64 x4)
      have hgw : Gw W ((((w.setCell ⟨h, 0, none⟩ (.int .i64 x1)).setCell ⟨h, 1, none⟩ (.int .i64 x2)).setCell ⟨h, 2, none⟩ (.int .i64 x3)).setCell ⟨h, 3, none⟩ (.int .i64 x4)) := (((hI.gw.set (p := ⟨h, 0, none⟩) hh _).set (p := ⟨h, 1, none⟩) hh _).set (p := ⟨h, 2, none⟩) hh _).set (p := ⟨h, 3, none⟩) hh _
      go_simp
      refine hK _ _ ⟨l0, l1, l2, l3, l4, l5, l6, l7, true, l9, true, true, l12, _, _, _, _, _, _, _, _, _, _, _, _, rfl, rfl, ?_⟩
      exact { hI with gw := hgw, c10 := fun _ b => absurd b (by decide), c11 := fun _ => ⟨h, rfl, hh, hq⟩, d11 := fun _ => rfl }
    · obtain rfl : l12 = false := hun
      obtain rfl : l9 = true := hdep 9 (by decide)
      refine wpOp_step (by rfl) (fun K' hK => ?_)
      obtain rfl := hI.c9 rfl
      go_simp
      refine hK _ _ ⟨l0, l1, l2, l3, l4, l5, l6, l7, l8, true, l10, l11, true, _, _, _, _, _, _, _, _, _, _, _, _, rfl, rfl, ?_⟩
      exact { hI with c12 := fun _ => rfl }
  · rintro l a w ⟨l0, l1, l2, l3, l4, l5, l6, l7, l8, l9, l10, l11, l12, v0, v1, v2, v3, v4, v5, v6, v7, v8, v9, v10, v12, rfl, rfl, hI⟩ hrdy
    obtain rfl : l0 = true := ready_nil hrdy (i := 0) (by decide) (fun j hj => by simp [depsOf, Region.binds] at hj)
    obtain rfl : l4 = true := ready_nil hrdy (i := 4) (by decide) (fun j hj => by simp [depsOf, Region.binds] at hj)
    obtain rfl : l5 = true := ready_nil hrdy (i := 5) (by decide) (fun j hj => by simp [depsOf, Region.binds] at hj)
    obtain rfl : l10 = true := ready_nil hrdy (i := 10) (by decide) (fun j hj => by simp [depsOf, Region.binds] at hj)
    obtain rfl : l1 = true := ready_nil hrdy (i := 1) (by decide) (fun j hj => by simp [depsOf, Region.binds] at hj; repeat (first | (subst hj; rfl) | (rcases hj with hj0 | hj; (focus (subst hj0; rfl)))))
    obtain rfl : l2 = true := ready_nil hrdy (i := 2) (by decide) (fun j hj => by simp [depsOf, Region.binds] at hj; repeat (first | (subst hj; rfl) | (rcases hj with hj0 | hj; (focus (subst hj0; rfl)))))
    obtain rfl : l3 = true := ready_nil hrdy (i := 3) (by decide) (fun j hj => by simp [depsOf, Region.binds] at hj; repeat (first | (subst hj; rfl) | (rcases hj with hj0 | hj; (focus (subst hj0; rfl)))))
    obtain rfl : l6 = true := ready_nil hrdy (i := 6) (by decide) (fun j hj => by simp [depsOf, Region.binds] at hj; repeat (first | (subst hj; rfl) | (rcases hj with hj0 | hj; (focus (subst hj0; rfl)))))
    obtain rfl : l7 = true := ready_nil hrdy (i := 7) (by decide) (fun j hj => by simp [depsOf, Region.binds] at hj; repeat (first | (subst hj; rfl) | (rcases hj with hj0 | hj; (focus (subst hj0; rfl)))))
    obtain rfl : l8 = true := ready_nil hrdy (i := 8) (by decide) (fun j hj => by simp [depsOf, Region.binds] at hj; repeat (first | (subst hj; rfl) | (rcases hj with hj0 | hj; (focus (subst hj0; rfl)))))
    obtain rfl : l9 = true := ready_nil hrdy (i := 9) (by decide) (fun j hj => by simp [depsOf, Region.binds] at hj; repeat (first | (subst hj; rfl) | (rcases hj with hj0 | hj; (focus (subst hj0; rfl)))))
    obtain rfl : l11 = true := ready_nil hrdy (i := 11) (by decide) (fun j hj => by simp [depsOf, Region.binds] at hj; repeat (first | (subst hj; rfl) | (rcases hj with hj0 | hj; (focus (subst hj0; rfl)))))
    obtain rfl : l12 = true := ready_nil hrdy (i := 12) (by decide) (fun j hj => by simp [depsOf, Region.binds] at hj; repeat (first | (subst hj; rfl) | (rcases hj with hj0 | hj; (focus (subst hj0; rfl)))))
    obtain rfl := hI.c12 rfl
    obtain ⟨h, rfl, hh, hb⟩ := hI.c11 rfl
    exact HQ.out v0 v1 v2 v3 v4 v5 v6 v7 v8 v9 h w hI.gw hh hb
end Go.Proofs.Ytipndibiioajmaa
