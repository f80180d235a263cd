/-
  The law FnExactMoveLasts answers true at every input, and its arguments read afterwards as they read before.
-/
import Derived.Test.YtcplnmanockhoaaRows
import Derived.Test.YtcplnmanockhoaaLasts
import Derived.Test.YtcplnmanockhoaaLaw
import Derived.Test.YtcplnmanockhoaaTyMove
import Derived.Test.YtcplnmanockhoaaTyMeasure
namespace Go.Proofs.Ytcplnmanockhoaa.lawFnExactMoveLasts
open Go.ChangeShapes Go.WideShapes Go.ChangeAt Go.RowKit
set_option linter.unusedVariables false

theorem own : ownKnob Try.prog.godebug = none := by kernel_rfl

-- params: agg:a,b,c,d,n rows:l:(Int×Int) int:f
-- import: Lasts
-- import: Law
-- import: TyMove
-- import: TyMeasure
set_option maxHeartbeats 4000000 in
set_option maxRecDepth 100000 in
theorem walk (w : World) (a : Int) (wf_a : (Lit.int .i64 a).wf = true) (b : Int) (wf_b : (Lit.int .i64 b).wf = true) (c : Int) (wf_c : (Lit.int .i64 c).wf = true) (d : Int) (wf_d : (Lit.int .i64 d).wf = true) (n : Int) (wf_n : (Lit.int .i64 n).wf = true) (A_l : Option Addr) (l : List (Int × Int)) (c_l : Nat) (hm_l : l.length ≤ 9223372036854775807) (rd_l : Rd w A_l l) (f : Int) (wf_f : (Lit.int .i64 f).wf = true) :
    Calls Try.prog 11 #[.agg #[.int .i64 a, .int .i64 b, .int .i64 c, .int .i64 d, .int .i64 n], .slice A_l l.length c_l, .int .i64 f] w fun e w' => e = .returned (.bool true) ∧ Gw w w' := by
  by_cases hs_l : l.length ≤ 1048576
  case neg =>
    go_enter Try.func11, Try.ntmps11
    go_wp2_with (first | (go_at_call 37; refine (l_szMeasureS _ _ _ _ _ (by omega) (by omega)).mono ?_; first | (rw [if_neg (by omega)]; rintro e w' ⟨rfl, rfl⟩) | (rw [if_pos (by omega)]; rintro e w' ⟨rfl, rfl⟩)))
    go_ret
    exact ⟨rfl, by (repeat (first | with_reducible exact Gw.refl _ | with_reducible assumption | ((with_reducible refine Gw.set ?_ ?_ _); rotate_left; (focus (first | (simp; done) | (simp; omega) | omega))) | with_reducible refine Gw.alloc ?_ _ | with_reducible refine Gw.drew ?_ | with_reducible refine Gw.drewN ?_ _ | (refine Gw.trans ?_ (by with_reducible assumption))))⟩
  have hl_l : l.length ≤ 1048576 := by omega
  go_enter Try.func11, Try.ntmps11
  go_wp2_with fail
  refine (l_szMeasureS _ _ _ _ _ (by omega) (by omega)).mono ?_
  rw [if_neg (by omega)]; rintro _ _ ⟨rfl, rfl⟩
  go_wp2_with fail
  refine (l_toMove _ _ _ _ _ _).mono ?_
  rintro _ w1 ⟨rfl, hb1⟩
  have hz1 := hb1.size
  (try simp at hz1)
  have G1 := hb1
  have hc1 := G1.cells
  go_wp2_with fail
  refine (l_toMeasureS _ _ _ _ hl_l (rd_l.gw (Gw.trans (by (repeat (first | with_reducible exact Gw.refl _ | with_reducible assumption | ((with_reducible refine Gw.set ?_ ?_ _); rotate_left; (focus (first | (simp; done) | (simp; omega) | omega))) | with_reducible refine Gw.alloc ?_ _ | with_reducible refine Gw.drew ?_ | with_reducible refine Gw.drewN ?_ _ | (refine Gw.trans ?_ (by with_reducible assumption))))) G1))).mono ?_
  rintro _ w2 ⟨g_t1, rfl, hg_t1, o_t1, hb2⟩
  have hz2 := hb2.size
  (try simp at hz2)
  have G2 := Gw.trans G1 hb2
  clear hc1
  have hc2 := G2.cells
  have lo_t1 := lt_of_own o_t1
  go_wp2_with fail
  refine (s_MoveLasts _ _ _ _ _ _ _ _ _ _ hl_l (own_rd o_t1)).mono ?_
  rintro _ w3 ⟨rfl, hb3⟩
  have hz3 := hb3.size
  (try simp at hz3)
  have G3 := Gw.trans G2 hb3
  clear hc2
  have hc3 := G3.cells
  have o_t13 := own_gw o_t1 hb3
  go_wp2_with fail
  refine (l_toMeasureS _ _ _ _ hl_l (rd_l.gw (Gw.trans (by (repeat (first | with_reducible exact Gw.refl _ | with_reducible assumption | ((with_reducible refine Gw.set ?_ ?_ _); rotate_left; (focus (first | (simp; done) | (simp; omega) | omega))) | with_reducible refine Gw.alloc ?_ _ | with_reducible refine Gw.drew ?_ | with_reducible refine Gw.drewN ?_ _ | (refine Gw.trans ?_ (by with_reducible assumption))))) G3))).mono ?_
  rintro _ w4 ⟨g_x1, rfl, hg_x1, o_x1, hb4⟩
  have hz4 := hb4.size
  (try simp at hz4)
  have G4 := Gw.trans G3 hb4
  clear hc3
  have hc4 := G4.cells
  have o_t14 := own_gw o_t13 hb4
  have lo_x1 := lt_of_own o_x1
  go_wp2_with fail
  refine (l_toMove _ _ _ _ _ _).mono ?_
  rintro _ w5 ⟨rfl, hb5⟩
  have hz5 := hb5.size
  (try simp at hz5)
  have G5 := Gw.trans G4 hb5
  clear hc4
  have hc5 := G5.cells
  have o_t15 := own_gw o_t14 hb5
  have o_x15 := own_gw o_x1 hb5
  go_wp2_with fail
  refine (i_MoveLasts _ _ _ _ _ _ _ _ _ _ hl_l (own_rd o_x15)).mono ?_
  rintro _ w6 ⟨rfl, hb6⟩
  have hz6 := hb6.size
  (try simp at hz6)
  have G6 := Gw.trans G5 hb6
  clear hc5
  have hc6 := G6.cells
  have o_t16 := own_gw o_t15 hb6
  have o_x16 := own_gw o_x15 hb6
  go_wp2_with fail
  refine (l_toMeasureS _ _ _ _ hl_l (rd_l.gw (Gw.trans (by (repeat (first | with_reducible exact Gw.refl _ | with_reducible assumption | ((with_reducible refine Gw.set ?_ ?_ _); rotate_left; (focus (first | (simp; done) | (simp; omega) | omega))) | with_reducible refine Gw.alloc ?_ _ | with_reducible refine Gw.drew ?_ | with_reducible refine Gw.drewN ?_ _ | (refine Gw.trans ?_ (by with_reducible assumption))))) G6))).mono ?_
  rintro _ w7 ⟨g_t2, rfl, hg_t2, o_t2, hb7⟩
  have hz7 := hb7.size
  (try simp at hz7)
  have G7 := Gw.trans G6 hb7
  clear hc6
  have hc7 := G7.cells
  have o_t17 := own_gw o_t16 hb7
  have o_x17 := own_gw o_x16 hb7
  have lo_t2 := lt_of_own o_t2
  go_wp2_with fail
  refine (l_eqMeasureS _ _ _ _ _ _ hl_l (own_rd o_x17) (own_rd o_t2)).mono ?_
  rintro _ w8 ⟨rfl, hb8⟩
  have hz8 := hb8.size
  (try simp at hz8)
  have G8 := Gw.trans G7 hb8
  clear hc7
  have hc8 := G8.cells
  have o_t18 := own_gw o_t17 hb8
  have o_x18 := own_gw o_x17 hb8
  have o_t28 := own_gw o_t2 hb8
  go_wp2_with fail
  go_ret
  exact ⟨rfl, (Gw.trans (by (repeat (first | with_reducible exact Gw.refl _ | with_reducible assumption | ((with_reducible refine Gw.set ?_ ?_ _); rotate_left; (focus (first | (simp; done) | (simp; omega) | omega))) | with_reducible refine Gw.alloc ?_ _ | with_reducible refine Gw.drew ?_ | with_reducible refine Gw.drewN ?_ _ | (refine Gw.trans ?_ (by with_reducible assumption))))) G8)⟩


set_option maxRecDepth 100000 in
theorem lifted (os : Os) (started : os.Started) (H : Type) (enc : TypeId × Value → H) :
    ReturnsInHanded {} Try.checked os 11 .any (Rows.fnExactMoveLastsSpec.pre6 enc Try.prog Try.f11 Rows.fnExactMoveLastsRow.domain false) (Rows.fnExactMoveLastsSpec.post enc Try.prog Try.f11 false true false false) := by
  refine returnsInHanded_of_change (C := Try.checked) own started (by kernel_rfl) Try.func11
    (ChangeSpec.witness6 (enc := enc) (C := Try.checked) false ⟨#[], #[.agg #[.int .i64 0, .int .i64 0, .int .i64 0, .int .i64 0, .int .i64 0], .slice none 0 0, .int .i64 0], []⟩ 8 (by kernel_rfl) (by kernel_rfl) (by kernel_rfl) (by kernel_rfl)) ?_
  intro W base args ds gs before hval0 hW hcnd _
  have hval : ∀ (j : Nat) t v, Try.f11.params[j]? = some t → args[j]? = some v → Value.okWide Try.prog W .any base t v := hval0
  have hW' := hW
  have hlt0 : ∀ p ∈ before, p.block < W.heap.size := fun p hp => hW.lt p hp
  obtain ⟨p, q, hA0, hV, rfl, hfz, hnd⟩ := hW
  have hlt : ∀ x ∈ p, x.block < W.heap.size := fun x hx => hlt0 x (List.mem_append_left _ hx)
  have hA : DataW.TrodAll enc Try.prog W 0 (fun _ => true) true Try.f11.params.toList args.toList ds p := hA0
  rw [Try.params11] at hA hval
  obtain ⟨v0, vs0, d0, ds0, p0, q0, hargs, rfl, rfl, h0, r0⟩ := trodAll_cons hA
  obtain ⟨v1, vs1, d1, ds1, p1, q1, rfl, rfl, rfl, h1, r1⟩ := trodAll_cons r0
  obtain ⟨v2, vs2, d2, ds2, p2, q2, rfl, rfl, rfl, h2, r2⟩ := trodAll_cons r1
  obtain ⟨rfl, rfl, rfl⟩ := trodAll_nil r2
  obtain rfl : args = #[v0, v1, v2] := by cases args; simp_all
  obtain ⟨rfl, rfl⟩ := trodVars_none hV
  obtain ⟨cs0_0, rfl, ft0_0⟩ := open_flat (n := 6) (ks := [.int .i64, .int .i64, .int .i64, .int .i64, .int .i64]) Try.underlying42 (by kernel_rfl) (hval 0 42 v0 rfl rfl) h0
  obtain ⟨_, cs0_1, rfl, ⟨a, rfl, wf_a⟩, ft0_1⟩ := ft0_0.cons
  obtain ⟨_, cs0_2, rfl, ⟨b, rfl, wf_b⟩, ft0_2⟩ := ft0_1.cons
  obtain ⟨_, cs0_3, rfl, ⟨c, rfl, wf_c⟩, ft0_3⟩ := ft0_2.cons
  obtain ⟨_, cs0_4, rfl, ⟨d, rfl, wf_d⟩, ft0_4⟩ := ft0_3.cons
  obtain ⟨_, cs0_5, rfl, ⟨n, rfl, wf_n⟩, ft0_5⟩ := ft0_4.cons
  obtain rfl := ft0_5.nil
  obtain ⟨A_l, l, c_l, rfl, hlc_l, hmc_l, rd_l, ok_l⟩ := open_rows (α := (Int×Int)) (n := 6) Try.underlying53 (by kernel_rfl) (by kernel_rfl) (hval 1 53 v1 rfl rfl) h1 (fun x hx => hlt x (by simp [hx]))
  have hm_l : l.length ≤ 9223372036854775807 := by have := Nat.le_trans hlc_l hmc_l; unfold maxLen at this; omega
  obtain ⟨f, rfl, rfl, rfl, wf_f⟩ := open_int Try.underlying3 (hval 2 3 v2 rfl rfl) h2
  refine (walk W a wf_a b wf_b c wf_c d wf_d n wf_n A_l l c_l hm_l rd_l f wf_f).mono fun e W' ⟨he, hg⟩ => ?_
  subst he
  exact ⟨_, rfl, post_law (by kernel_rfl) (by rw [Try.params11]; exact plainTypes (by kernel_rfl)) rfl Try.underlying4 rfl ⟨rfl, rfl, rfl⟩ hW' hg⟩

theorem over : Rows.fnExactMoveLastsRow.holds Try.pinned (OpenSpec.ofChange Rows.fnExactMoveLastsSpec) :=
  OpenClaim.holds_of_wide 11 Try.f11 rfl rfl rfl rfl rfl rfl rfl ⟨rfl, rfl, rfl, rfl, rfl⟩ rfl rfl rfl rfl rfl (by kernel_rfl) Try.func11 (by kernel_rfl)
    (of_decide_eq_true (by kernel_rfl)) (by unfold Func.isWrapper; first | (rw [if_pos (by decide +kernel)]; kernel_rfl) | (rw [if_neg (by decide +kernel)]; exact ⟨rfl, rfl⟩))
    (fun os started H enc _ => lifted os started H enc)

/-- The statement. -/
theorem proved : Rows.FnExactMoveLastsSaid :=
  over
#print axioms proved
end Go.Proofs.Ytcplnmanockhoaa.lawFnExactMoveLasts
