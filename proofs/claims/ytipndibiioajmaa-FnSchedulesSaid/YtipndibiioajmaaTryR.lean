/-
  The region of the reference's search that goes on with one more: whatever its order.
-/
import Derived.Test.YtipndibiioajmaaRegI
import Derived.Test.YtipndibiioajmaaOrd
import Derived.Test.YtipndibiioajmaaEarlC
namespace Go.Proofs.Ytipndibiioajmaa
open Go.RowKit Go.ChangeShapes Go.WideShapes
set_option linter.unusedVariables false

/-- The region of a text that has a number. -/
def regC (id : Nat) : Code → Code
  | .region i ops d => if i = id then .region i ops d else .skip
  | .seq a b => match regC id a with | .skip => regC id b | c => c
  | .cond _ a b => match regC id a with | .skip => regC id b | c => c
  | .block _ b => regC id b
  | .loop b => regC id b
  | .scope b => regC id b
  | _ => .skip
/-- What is known when some of the region's operations are done. -/
structure RC (W w : World) (m0 m1 : Value) (o : List Int) (k : Nat) (iv : Int) (m7 : Value) (S : List B4) (n : Nat) (x : B4) (l0 l1 l2 l3 l4 l5 l6 l7 l8 l9 l10 l11 : Bool) (v0 v1 v2 v3 v4 v5 v6 v7 v8 v9 v10 v11 : Value) : Prop where
  gw : Gw W w
  c0 : l0 = true → v0 = m0
  c1 : l1 = true → v1 = m1
  c2 : l2 = true → l5 = false → ∃ A c, v2 = .slice A k c ∧ w.ownsRow W.heap.size 3 1 (.slice A k c) k (flat o)
  c3 : l3 = true → v3 = .int .i64 iv
  c4 : l4 = true → l5 = false → ∃ h, v4 = .slice (some ⟨h, 0, none⟩) 1 1 ∧ w.ownsRow W.heap.size 3 1 (.slice (some ⟨h, 0, none⟩) 1 1) 1 (flat [iv])
  c5 : l5 = true → ∃ A c, v5 = .slice A (k + 1) c ∧ w.ownsRow W.heap.size 3 1 (.slice A (k + 1) c) (k + 1) (flat (o ++ [iv]))
  c6 : l6 = true → l8 = false → ∃ h, v6 = .slice (some ⟨h, 0, none⟩) 0 0 ∧ w.ownsRow W.heap.size 88 4 (.slice (some ⟨h, 0, none⟩) 0 0) 0 (flat ([] : List B4))
  c7 : l7 = true → v7 = m7
  c8 : l8 = true → l11 = false → ∃ A c, v8 = .slice A n c ∧ w.ownsRow W.heap.size 88 4 (.slice A n c) n (flat S)
  c9 : l9 = true → v9 = (.agg #[.int .i64 x.1, .int .i64 x.2.1, .int .i64 x.2.2.1, .int .i64 x.2.2.2])
  c10 : l10 = true → l11 = false → ∃ h, v10 = .slice (some ⟨h, 0, none⟩) 1 1 ∧ w.ownsRow W.heap.size 88 4 (.slice (some ⟨h, 0, none⟩) 1 1) 1 (flat [x]) ∧ (l6 = true → l8 = false → v6.ownBlock ≠ some h)
  c11 : l11 = true → ∃ A c, v11 = .slice A (n + 1) c ∧ w.ownsRow W.heap.size 88 4 (.slice A (n + 1) c) (n + 1) (flat (S ++ [x]))
  d2 : l2 = true → l1 = true
  d4 : l4 = true → l3 = true
  d5 : l5 = true → l2 = true ∧ l4 = true
  d8 : l8 = true → l6 = true ∧ l7 = true
  d10 : l10 = true → l9 = true
  d11 : l11 = true → l8 = true ∧ l10 = true
variable {W w w' : World} {m0 m1 m7 : Value} {o : List Int} {k n : Nat} {iv : Int} {S : List B4} {x : B4} {l0 l1 l2 l3 l4 l5 l6 l7 l8 l9 l10 l11 : Bool} {v0 v1 v2 v3 v4 v5 v6 v7 v8 v9 v10 v11 : Value}
theorem RC.mono (h : RC W w m0 m1 o k iv m7 S n x l0 l1 l2 l3 l4 l5 l6 l7 l8 l9 l10 l11 v0 v1 v2 v3 v4 v5 v6 v7 v8 v9 v10 v11) (hg : Gw w w') : RC W w' m0 m1 o k iv m7 S n x l0 l1 l2 l3 l4 l5 l6 l7 l8 l9 l10 l11 v0 v1 v2 v3 v4 v5 v6 v7 v8 v9 v10 v11 :=
  { h with
    gw := h.gw.trans hg
    c2 := fun a b => by obtain ⟨A, c, e, q⟩ := h.c2 a b; exact ⟨A, c, e, own_gw q hg⟩
    c4 := fun a b => by obtain ⟨i, e, q⟩ := h.c4 a b; exact ⟨i, e, own_gw q hg⟩
    c5 := fun a => by obtain ⟨A, c, e, q⟩ := h.c5 a; exact ⟨A, c, e, own_gw q hg⟩
    c6 := fun a b => by obtain ⟨i, e, q⟩ := h.c6 a b; exact ⟨i, e, own_gw q hg⟩
    c8 := fun a b => by obtain ⟨A, c, e, q⟩ := h.c8 a b; exact ⟨A, c, e, own_gw q hg⟩
    c10 := fun a b => by obtain ⟨i, e, q, r⟩ := h.c10 a b; exact ⟨i, e, own_gw q hg, r⟩
    c11 := fun a => by obtain ⟨A, c, e, q⟩ := h.c11 a; exact ⟨A, c, e, own_gw q hg⟩ }

set_option maxHeartbeats 16000000 in
set_option maxRecDepth 100000 in
theorem try_region {Q : Exit → Act → World → Prop} {s3 s4 s5 s7 s9 s10 s11 s12 s13 s14 s15 s16 s17 s18 s19 s20 s21 s22 s23 s24 s25 s26 s27 s28 s29 s30 s31 s32 s33 s34 s35 s36 s37 s38 s39 s40 s41 s42 s43 s44 s45 s46 s47 s48 s49 s50 s51 s52 s53 s54 s55 s56 s57 s58 s59 s60 s61 s62 s63 s64 s65 s66 s67 s68 s69 s70 s71 s72 s73 s74 s75 s76 s77 s78 s79 s80 : Value} (g : Nat) (O : Option Addr) (co k : Nat) (o : List Int) (D : Option Addr) (cd n : Nat) (S : List B4) (iv : Int) (h : Nat) (x : B4) (W : World)
    (hol : o.length = k) (hO : Rd W O o) (hSn : S.length = n) (hD : Rd W D S) (hx : BoxR W h (Flat.cells x).toArray 88) (hk : k ≤ 1000) (hn : n ≤ 1000) (Post : World → Prop)
    (hcall : ∀ (w1 : World) (A : Option Addr) (c : Nat) (A' : Option Addr) (c' : Nat), Gw W w1 → w1.ownsRow W.heap.size 3 1 (.slice A (k + 1) c) (k + 1) (flat (o ++ [iv])) → w1.ownsRow W.heap.size 88 4 (.slice A' (n + 1) c') (n + 1) (flat (S ++ [x])) →
      Calls Try.prog 40 #[.pointer (some ⟨g, 0, none⟩), .slice A (k + 1) c, .slice A' (n + 1) c'] w1 fun e w' => e = .returned (.tuple #[]) ∧ Post w')
    (hQ : ∀ (t0 t1 t2 t3 t4 t5 t6 t7 t8 t9 t10 t11 t12 : Value) (w' : World), Post w' → Q .normal ⟨#[.pointer (some ⟨g, 0, none⟩), .slice O k co, .slice D n cd, s3, s4, s5, .int .i64 iv, s7, .pointer (some ⟨h, 0, none⟩), s9, s10, s11, s12, s13, s14, s15, s16, s17, s18, s19, s20, s21, s22, s23, s24, s25, s26, s27, s28, s29, s30, s31, s32, s33, s34, s35, s36, s37, s38, s39, s40, s41, s42, s43, s44, s45, s46, s47, s48, s49, s50, s51, s52, s53, s54, s55, s56, s57, s58, s59, s60, s61, s62, s63, s64, s65, s66, t0, t1, t2, t3, t4, t5, t6, t7, t8, t9, t10, t11, t12, s80], []⟩ w') :
    (regC 11 (Try.f40.body.getD .skip)).wp Try.prog Q ⟨#[.pointer (some ⟨g, 0, none⟩), .slice O k co, .slice D n cd, s3, s4, s5, .int .i64 iv, s7, .pointer (some ⟨h, 0, none⟩), s9, s10, s11, s12, s13, s14, s15, s16, s17, s18, s19, s20, s21, s22, s23, s24, s25, s26, s27, s28, s29, s30, s31, s32, s33, s34, s35, s36, s37, s38, s39, s40, s41, s42, s43, s44, s45, s46, s47, s48, s49, s50, s51, s52, s53, s54, s55, s56, s57, s58, s59, s60, s61, s62, s63, s64, s65, s66, s67, s68, s69, s70, s71, s72, s73, s74, s75, s76, s77, s78, s79, s80], []⟩ W := by
  obtain ⟨i0, hi, hz0, hz1, hz2⟩ := info_parts infoInt
  obtain ⟨i1, hi', hy0, hy1, hy2⟩ := info_parts infoBooked
  have HO := Lib.hid hO
  have HD := Lib.hid hD
  have Hol := Lib.hid hol
  have HSn := Lib.hid hSn
  have Hx := Lib.hid hx
  have HC := Lib.hid hcall
  have HQ := Lib.hid hQ
  clear hO hD hol hSn hx hcall hQ
  obtain ⟨x1, x2, x3, x4⟩ := x
  conv => arg 2; whnf
  conv => arg 4; zeta
  refine wp_region_inv (fun l a w => ∃ (l0 l1 l2 l3 l4 l5 l6 l7 l8 l9 l10 l11 : Bool) (v0 v1 v2 v3 v4 v5 v6 v7 v8 v9 v10 v11 v12 : Value), a = ⟨#[.pointer (some ⟨g, 0, none⟩), .slice O k co, .slice D n cd, s3, s4, s5, .int .i64 iv, s7, .pointer (some ⟨h, 0, none⟩), s9, s10, s11, s12, s13, s14, s15, s16, s17, s18, s19, s20, s21, s22, s23, s24, s25, s26, s27, s28, s29, s30, s31, s32, s33, s34, s35, s36, s37, s38, s39, s40, s41, s42, s43, s44, s45, s46, s47, s48, s49, s50, s51, s52, s53, s54, s55, s56, s57, s58, s59, s60, s61, s62, s63, s64, s65, s66, v0, v1, v2, v3, v4, v5, v6, v7, v8, v9, v10, v11, v12, s80], []⟩ ∧ ((l = #[l0, l1, l2, l3, l4, l5, l6, l7, l8, l9, l10, l11, false] ∧ RC W w (.pointer (some ⟨g, 0, none⟩)) (.slice O k co) o k iv (.slice D n cd) S n (x1, x2, x3, x4) l0 l1 l2 l3 l4 l5 l6 l7 l8 l9 l10 l11 v0 v1 v2 v3 v4 v5 v6 v7 v8 v9 v10 v11) ∨ (l = #[true, true, true, true, true, true, true, true, true, true, true, true, true] ∧ Post w))) (by kernel_rfl) ?_ ?_ ?_ ?_
  · rintro l a w ⟨l0, l1, l2, l3, l4, l5, l6, l7, l8, l9, l10, l11, v0, v1, v2, v3, v4, v5, v6, v7, v8, v9, v10, v11, v12, -, (⟨rfl, -⟩ | ⟨rfl, -⟩)⟩ <;> rfl
  · refine ⟨false, false, false, false, false, false, false, false, false, false, false, false, s67, s68, s69, s70, s71, s72, s73, s74, s75, s76, s77, s78, s79, rfl, .inl ⟨rfl, ?_⟩⟩
    constructor
    case gw => exact (Gw.refl W).drew
    all_goals (intro hh; exact absurd hh (by decide))
  · rintro l a w i ⟨l0, l1, l2, l3, l4, l5, l6, l7, l8, l9, l10, l11, v0, v1, v2, v3, v4, v5, v6, v7, v8, v9, v10, v11, v12, rfl, (⟨rfl, hI⟩ | ⟨rfl, hP⟩)⟩ hsz hun hdep
    rotate_left
    · exfalso
      have hsz : i < 13 := hsz
      have : ∀ j, j < 13 → (#[true, true, true, true, true, true, true, true, true, true, true, true, true] : Array Bool).getD j true = true := by decide
      rw [this i hsz] at hun
      cases hun
    have hsz : i < 13 := hsz
    have hcs : i = 0 ∨ i = 1 ∨ i = 2 ∨ i = 3 ∨ i = 4 ∨ i = 5 ∨ i = 6 ∨ i = 7 ∨ i = 8 ∨ i = 9 ∨ i = 10 ∨ i = 11 ∨ i = 12 := by omega
    rcases hcs with rfl | rfl | rfl | rfl | rfl | rfl | rfl | rfl | rfl | rfl | rfl | rfl | rfl
    · obtain rfl : l0 = false := hun
      refine wpOp_step (by rfl) (fun K' hK => ?_)
      go_simp
      refine hK _ _ ⟨true, l1, l2, l3, l4, l5, l6, l7, l8, l9, l10, l11, _, _, _, _, _, _, _, _, _, _, _, _, _, rfl, .inl ⟨rfl, ?_⟩⟩
      exact { hI with c0 := fun _ => rfl }
    · obtain rfl : l1 = false := hun
      refine wpOp_step (by rfl) (fun K' hK => ?_)
      go_simp
      refine hK _ _ ⟨l0, true, l2, l3, l4, l5, l6, l7, l8, l9, l10, l11, _, _, _, _, _, _, _, _, _, _, _, _, _, rfl, .inl ⟨rfl, ?_⟩⟩
      exact { hI with c1 := fun _ => rfl, d2 := fun _ => rfl }
    · obtain rfl : l2 = false := hun
      obtain rfl : l1 = true := hdep 1 (by decide)
      refine wpOp_step (by rfl) (fun K' hK => ?_)
      obtain rfl := hI.c1 rfl
      go_simp
      go_at_call 69
      refine (s_l1Own _ _ _ o _ Hol.out (by omega) (HO.out.gw hI.gw)).mono ?_
      rintro _ w2 ⟨A2, c2, rfl, hown, hb⟩
      refine hK _ _ ⟨l0, true, true, l3, l4, l5, l6, l7, l8, l9, l10, l11, _, _, _, _, _, _, _, _, _, _, _, _, _, rfl, .inl ⟨rfl, ?_⟩⟩
      exact { (hI.mono hb) with c2 := fun _ _ => ⟨A2, c2, rfl, own_lower hown hI.gw.size⟩, d2 := fun _ => rfl, d5 := fun a => ⟨rfl, (hI.d5 a).2⟩ }
    · obtain rfl : l3 = false := hun
      refine wpOp_step (by rfl) (fun K' hK => ?_)
      go_simp
      refine hK _ _ ⟨l0, l1, l2, true, l4, l5, l6, l7, l8, l9, l10, l11, _, _, _, _, _, _, _, _, _, _, _, _, _, rfl, .inl ⟨rfl, ?_⟩⟩
      exact { hI with c3 := fun _ => rfl, d4 := fun _ => rfl }
    · obtain rfl : l4 = false := hun
      obtain rfl : l3 = true := hdep 3 (by decide)
      refine wpOp_step (by rfl) (fun K' hK => ?_)
      obtain rfl := hI.c3 rfl
      go_simp
      refine hK _ _ ⟨l0, l1, l2, true, true, l5, l6, l7, l8, l9, l10, l11, _, _, _, _, _, _, _, _, _, _, _, _, _, rfl, .inl ⟨rfl, ?_⟩⟩
      exact { (hI.mono ((Gw.refl w).alloc _)) with c4 := fun _ _ => ⟨w.heap.size, rfl, own_one w (iv : Int) hI.gw.size⟩, d4 := fun _ => rfl, d5 := fun a => ⟨(hI.d5 a).1, rfl⟩ }
    · obtain rfl : l5 = false := hun
      obtain rfl : l2 = true := hdep 2 (by decide)
      obtain rfl : l4 = true := hdep 4 (by decide)
      refine wpOp_step (by rfl) (fun K' hK => ?_)
      obtain ⟨A2, c2, rfl, hown2⟩ := hI.c2 rfl rfl
      obtain ⟨h4, rfl, hown4⟩ := hI.c4 rfl rfl
      refine step_cat (α := Int) rfl (.tmp 69) (.tmp 71) 26 (by rfl) W.heap.size 3 i0 _ 8 Try.underlying26 hi hz0 hz1 hz2 rfl (by omega) o k Hol.out _ _ (by rfl) [iv] 1 rfl _ _ (by rfl) (own_rd hown4) hown2 (by omega) (by omega) hI.gw.size ?_
      intro A9 c9 w9 hown9 hgg hgr
      have hb9 := hgg W hI.gw (Nat.le_refl _)
      refine hK _ _ ⟨l0, l1, true, l3, true, true, l6, l7, l8, l9, l10, l11, _, _, _, _, _, _, _, _, _, _, _, _, _, rfl, .inl ⟨rfl, ?_⟩⟩
      exact { hI with gw := hb9, c2 := fun _ b => absurd b (by decide), c4 := fun _ b => absurd b (by decide), c5 := fun _ => ⟨A9, c9, rfl, hown9⟩, c6 := fun a b => by obtain ⟨q, e, r⟩ := hI.c6 a b; exact ⟨q, e, own_besideT (by decide) r hown2 hgr⟩, c8 := fun a b => by obtain ⟨q, c, e, r⟩ := hI.c8 a b; exact ⟨q, c, e, own_besideT (by decide) r hown2 hgr⟩, c10 := fun a b => by obtain ⟨q, e, r, t⟩ := hI.c10 a b; exact ⟨q, e, own_besideT (by decide) r hown2 hgr, t⟩, c11 := fun a => by obtain ⟨q, c, e, r⟩ := hI.c11 a; exact ⟨q, c, e, own_besideT (by decide) r hown2 hgr⟩, d5 := fun _ => ⟨rfl, rfl⟩ }
    · obtain rfl : l6 = false := hun
      refine wpOp_step (by rfl) (fun K' hK => ?_)
      go_simp
      refine hK _ _ ⟨l0, l1, l2, l3, l4, l5, true, l7, l8, l9, l10, l11, _, _, _, _, _, _, _, _, _, _, _, _, _, rfl, .inl ⟨rfl, ?_⟩⟩
      exact { (hI.mono ((Gw.refl w).alloc _)) with c6 := fun _ _ => ⟨w.heap.size, rfl, World.ownsRow_made w #[] 0 hI.gw.size (by simp [maxLen]) (by simp)⟩, d8 := fun a => ⟨rfl, (hI.d8 a).2⟩, c10 := fun a b => by obtain ⟨q, e, r, _⟩ := hI.c10 a b; exact ⟨q, e, own_gw r ((Gw.refl w).alloc _), fun _ _ e' => by have h1 := Option.some.inj e'; have h2 := (r.lt q rfl).2; simp at h1; omega⟩ }
    · obtain rfl : l7 = false := hun
      refine wpOp_step (by rfl) (fun K' hK => ?_)
      go_simp
      refine hK _ _ ⟨l0, l1, l2, l3, l4, l5, l6, true, l8, l9, l10, l11, _, _, _, _, _, _, _, _, _, _, _, _, _, rfl, .inl ⟨rfl, ?_⟩⟩
      exact { hI with c7 := fun _ => rfl, d8 := fun a => ⟨(hI.d8 a).1, rfl⟩ }
    · obtain rfl : l8 = false := hun
      obtain rfl : l6 = true := hdep 6 (by decide)
      obtain rfl : l7 = true := hdep 7 (by decide)
      refine wpOp_step (by rfl) (fun K' hK => ?_)
      obtain ⟨h6, rfl, hown6⟩ := hI.c6 rfl rfl
      obtain rfl := hI.c7 rfl
      refine step_cat (α := B4) rfl (.tmp 73) (.tmp 74) 43 (by rfl) W.heap.size 88 i1 _ 32 Try.underlying43 hi' hy0 hy1 hy2 rfl (by omega) ([] : List B4) 0 rfl _ _ (by rfl) S n HSn.out _ _ (by rfl) (HD.out.gw hI.gw) hown6 (by omega) (by omega) hI.gw.size ?_
      intro A9 c9 w9 hown9 hgg hgr
      have hb9 := hgg W hI.gw (Nat.le_refl _)
      simp only [List.nil_append, Nat.zero_add] at hown9
      rw [show (0 + n : Nat) = n from Nat.zero_add _]
      refine hK _ _ ⟨l0, l1, l2, l3, l4, l5, true, true, true, l9, l10, l11, _, _, _, _, _, _, _, _, _, _, _, _, _, rfl, .inl ⟨rfl, ?_⟩⟩
      exact { hI with gw := hb9, c2 := fun a b => by obtain ⟨q, c, e, r⟩ := hI.c2 a b; exact ⟨q, c, e, own_besideT (by decide) r hown6 hgr⟩, c4 := fun a b => by obtain ⟨q, e, r⟩ := hI.c4 a b; exact ⟨q, e, own_besideT (by decide) r hown6 hgr⟩, c5 := fun a => by obtain ⟨q, c, e, r⟩ := hI.c5 a; exact ⟨q, c, e, own_besideT (by decide) r hown6 hgr⟩, c6 := fun _ b => absurd b (by decide), c8 := fun _ _ => ⟨A9, c9, rfl, hown9⟩, c10 := fun a b => by obtain ⟨q, e, r, t⟩ := hI.c10 a b; exact ⟨q, e, r.kept hgr (.inr fun e' => t rfl rfl e'.symm), fun _ b => absurd b (by decide)⟩, c11 := fun a => absurd (hI.d11 a).1 (by decide), d8 := fun _ => ⟨rfl, rfl⟩, d11 := fun a => ⟨rfl, (hI.d11 a).2⟩ }
    · obtain rfl : l9 = false := hun
      refine wpOp_step (by rfl) (fun K' hK => ?_)
      have bx := Hx.out.gw hI.gw
      have z0 := bx.cell 0 rfl
      have z1 := bx.cell 1 rfl
      have z2 := bx.cell 2 rfl
      have z3 := bx.cell 3 rfl
      (try dsimp only at z0 z1 z2 z3)
      go_simp
      refine hK _ _ ⟨l0, l1, l2, l3, l4, l5, l6, l7, l8, true, l10, l11, _, _, _, _, _, _, _, _, _, _, _, _, _, rfl, .inl ⟨rfl, ?_⟩⟩
      exact { hI with c9 := fun _ => rfl, d10 := fun _ => rfl }
    · obtain rfl : l10 = false := hun
      obtain rfl : l9 = true := hdep 9 (by decide)
      refine wpOp_step (by rfl) (fun K' hK => ?_)
      obtain rfl := hI.c9 rfl
      go_simp
      refine hK _ _ ⟨l0, l1, l2, l3, l4, l5, l6, l7, l8, true, true, l11, _, _, _, _, _, _, _, _, _, _, _, _, _, rfl, .inl ⟨rfl, ?_⟩⟩
      exact { (hI.mono ((Gw.refl w).alloc _)) with c10 := fun _ _ => ⟨w.heap.size, rfl, own_one w ((x1, x2, x3, x4) : B4) hI.gw.size, fun a b e' => by obtain ⟨q, e, r⟩ := hI.c6 a b; subst e; have h1 := Option.some.inj e'; have h2 := (r.lt q rfl).2; simp at h1; omega⟩, d10 := fun _ => rfl, d11 := fun a => ⟨(hI.d11 a).1, rfl⟩ }
    · obtain rfl : l11 = false := hun
      obtain rfl : l8 = true := hdep 8 (by decide)
      obtain rfl : l10 = true := hdep 10 (by decide)
      refine wpOp_step (by rfl) (fun K' hK => ?_)
      obtain ⟨A8, c8, rfl, hown8⟩ := hI.c8 rfl rfl
      obtain ⟨h10, rfl, hown10, -⟩ := hI.c10 rfl rfl
      refine step_cat (α := B4) rfl (.tmp 75) (.tmp 77) 43 (by rfl) W.heap.size 88 i1 _ 32 Try.underlying43 hi' hy0 hy1 hy2 rfl (by omega) S n HSn.out _ _ (by rfl) [(x1, x2, x3, x4)] 1 rfl _ _ (by rfl) (own_rd hown10) hown8 (by omega) (by omega) hI.gw.size ?_
      intro A9 c9 w9 hown9 hgg hgr
      have hb9 := hgg W hI.gw (Nat.le_refl _)
      refine hK _ _ ⟨l0, l1, l2, l3, l4, l5, l6, l7, true, l9, true, true, _, _, _, _, _, _, _, _, _, _, _, _, _, rfl, .inl ⟨rfl, ?_⟩⟩
      exact { hI with gw := hb9, c2 := fun a b => by obtain ⟨q, c, e, r⟩ := hI.c2 a b; exact ⟨q, c, e, own_besideT (by decide) r hown8 hgr⟩, c4 := fun a b => by obtain ⟨q, e, r⟩ := hI.c4 a b; exact ⟨q, e, own_besideT (by decide) r hown8 hgr⟩, c5 := fun a => by obtain ⟨q, c, e, r⟩ := hI.c5 a; exact ⟨q, c, e, own_besideT (by decide) r hown8 hgr⟩, c6 := fun _ b => absurd b (by decide), c8 := fun _ b => absurd b (by decide), c10 := fun _ b => absurd b (by decide), c11 := fun _ => ⟨A9, c9, rfl, hown9⟩, d11 := fun _ => ⟨rfl, rfl⟩ }
    · obtain rfl : l0 = true := hdep 0 (by decide)
      obtain rfl : l5 = true := hdep 5 (by decide)
      obtain rfl : l11 = true := hdep 11 (by decide)
      refine wpOp_step (by rfl) (fun K' hK => ?_)
      obtain rfl := hI.c0 rfl
      obtain ⟨A5, c5, rfl, hown5⟩ := hI.c5 rfl
      obtain ⟨A11, c11, rfl, hown11⟩ := hI.c11 rfl
      obtain ⟨rfl, rfl⟩ := hI.d5 rfl
      obtain ⟨rfl, rfl⟩ := hI.d11 rfl
      obtain ⟨rfl, rfl⟩ := hI.d8 rfl
      obtain rfl := hI.d2 rfl
      obtain rfl := hI.d4 rfl
      obtain rfl := hI.d10 rfl
      go_simp
      go_at_call 40
      refine (HC.out w A5 c5 A11 c11 hI.gw hown5 hown11).mono ?_
      rintro _ w2 ⟨rfl, hP⟩
      exact hK _ _ ⟨true, true, true, true, true, true, true, true, true, true, true, true, _, _, _, _, _, _, _, _, _, _, _, _, _, rfl, .inr ⟨rfl, hP⟩⟩
  · rintro l a w ⟨l0, l1, l2, l3, l4, l5, l6, l7, l8, l9, l10, l11, v0, v1, v2, v3, v4, v5, v6, v7, v8, v9, v10, v11, v12, rfl, (⟨rfl, hI⟩ | ⟨rfl, hP⟩)⟩ hrdy
    · exfalso
      obtain rfl : l0 = true := ready_nil hrdy (i := 0) (by decide) (fun j hj => by have hj : j ∈ ([] : List Nat) := hj; simp at hj)
      obtain rfl : l1 = true := ready_nil hrdy (i := 1) (by decide) (fun j hj => by have hj : j ∈ ([] : List Nat) := hj; simp at hj)
      obtain rfl : l3 = true := ready_nil hrdy (i := 3) (by decide) (fun j hj => by have hj : j ∈ ([] : List Nat) := hj; simp at hj)
      obtain rfl : l6 = true := ready_nil hrdy (i := 6) (by decide) (fun j hj => by have hj : j ∈ ([] : List Nat) := hj; simp at hj)
      obtain rfl : l7 = true := ready_nil hrdy (i := 7) (by decide) (fun j hj => by have hj : j ∈ ([] : List Nat) := hj; simp at hj)
      obtain rfl : l9 = true := ready_nil hrdy (i := 9) (by decide) (fun j hj => by have hj : j ∈ ([] : List Nat) := hj; simp at hj)
      obtain rfl : l2 = true := ready_nil hrdy (i := 2) (by decide) (fun j hj => by simp [depsOf, Region.binds] at hj; repeat (first | (subst hj; rfl) | (rcases hj with hj0 | hj; (focus (subst hj0; rfl)))))
      obtain rfl : l4 = true := ready_nil hrdy (i := 4) (by decide) (fun j hj => by simp [depsOf, Region.binds] at hj; repeat (first | (subst hj; rfl) | (rcases hj with hj0 | hj; (focus (subst hj0; rfl)))))
      obtain rfl : l5 = true := ready_nil hrdy (i := 5) (by decide) (fun j hj => by simp [depsOf, Region.binds] at hj; repeat (first | (subst hj; rfl) | (rcases hj with hj0 | hj; (focus (subst hj0; rfl)))))
      obtain rfl : l8 = true := ready_nil hrdy (i := 8) (by decide) (fun j hj => by simp [depsOf, Region.binds] at hj; repeat (first | (subst hj; rfl) | (rcases hj with hj0 | hj; (focus (subst hj0; rfl)))))
      obtain rfl : l10 = true := ready_nil hrdy (i := 10) (by decide) (fun j hj => by simp [depsOf, Region.binds] at hj; repeat (first | (subst hj; rfl) | (rcases hj with hj0 | hj; (focus (subst hj0; rfl)))))
      obtain rfl : l11 = true := ready_nil hrdy (i := 11) (by decide) (fun j hj => by simp [depsOf, Region.binds] at hj; repeat (first | (subst hj; rfl) | (rcases hj with hj0 | hj; (focus (subst hj0; rfl)))))
      have hf : false = true := ready_nil hrdy (i := 12) (by decide) (fun j hj => by simp [depsOf, Region.binds] at hj; repeat (first | (subst hj; rfl) | (rcases hj with hj0 | hj; (focus (subst hj0; rfl)))))
      cases hf
    · exact HQ.out v0 v1 v2 v3 v4 v5 v6 v7 v8 v9 v10 v11 v12 w hP
end Go.Proofs.Ytipndibiioajmaa
