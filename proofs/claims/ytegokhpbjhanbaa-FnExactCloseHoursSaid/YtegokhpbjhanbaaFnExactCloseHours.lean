/-
  The law FnExactCloseHours answers true at every input, and its arguments read afterwards as they read before.
-/
import Derived.Test.YtegokhpbjhanbaaRows
import Derived.Test.YtegokhpbjhanbaaHourX
import Derived.Test.YtegokhpbjhanbaaHourI
import Derived.Test.YtegokhpbjhanbaaLaw
import Derived.Test.YtegokhpbjhanbaaTyWindow
import Derived.Test.YtegokhpbjhanbaaTyInt
import Derived.Test.YtegokhpbjhanbaaTell
namespace Go.Proofs.Ytegokhpbjhanbaa.lawFnExactCloseHours
open Go.ChangeShapes Go.WideShapes Go.ChangeAt Go.RowKit
set_option linter.unusedVariables false

theorem own : ownKnob Try.prog.godebug = none := by kernel_rfl

-- params: rows:l:(Int×Int×Int) int:f int:t
-- import: HourX
-- import: HourI
-- import: Law
-- import: TyWindow
-- import: TyInt
-- import: Tell
set_option maxHeartbeats 4000000 in
set_option maxRecDepth 100000 in
theorem walk (w : World) (A_l : Option Addr) (l : List (Int × Int × Int)) (c_l : Nat) (hm_l : l.length ≤ 9223372036854775807) (rd_l : Rd w A_l l) (f : Int) (wf_f : (Lit.int .i64 f).wf = true) (t : Int) (wf_t : (Lit.int .i64 t).wf = true) :
    Calls Try.prog 4 #[.slice A_l l.length c_l, .int .i64 f, .int .i64 t] w fun e w' => e = .returned (.bool true) ∧ Gw w w' := by
  by_cases hs_l : l.length ≤ 1048576
  case neg =>
    go_enter Try.func4, Try.ntmps4
    go_wp2_with (first | (go_at_call 10; refine (l_szWindowS _ _ _ _ _ (by omega) (by omega)).mono ?_; first | (rw [if_neg (by omega)]; rintro e w' ⟨rfl, rfl⟩) | (rw [if_pos (by omega)]; rintro e w' ⟨rfl, rfl⟩)))
    go_ret
    exact ⟨rfl, by (repeat (first | with_reducible exact Gw.refl _ | with_reducible assumption | ((with_reducible refine Gw.set ?_ ?_ _); rotate_left; (focus (first | (simp; done) | (simp; omega) | omega))) | with_reducible refine Gw.alloc ?_ _ | with_reducible refine Gw.drew ?_ | with_reducible refine Gw.drewN ?_ _ | (refine Gw.trans ?_ (by with_reducible assumption))))⟩
  have hl_l : l.length ≤ 1048576 := by omega
  go_enter Try.func4, Try.ntmps4
  have hlr : (closeF l f t).1.length ≤ 1048576 := closeF_len l f t
  go_wp2_with fail
  refine (l_szWindowS _ _ _ _ _ (by omega) (by omega)).mono ?_
  rw [if_neg (by omega)]; rintro _ _ ⟨rfl, rfl⟩
  go_wp2_with fail
  refine (l_toWindowS _ _ _ _ hl_l (rd_l.gw (Gw.refl w))).mono ?_
  rintro _ w1 ⟨g_t1, rfl, hg_t1, o_t1, hb1⟩
  have hz1 := hb1.size
  (try simp at hz1)
  have G1 : Gw w w1 := Gw.trans ((Gw.refl w)) hb1
  have lo_t1 := lt_of_own o_t1
  go_wp2_with fail
  refine (s_CloseHours _ _ _ _ _ _ hl_l (own_rd o_t1) (Nat.le_refl _)).mono ?_
  rintro _ w2 ⟨A_w0, c_w0, rfl, o_w0, hb2⟩
  have hz2 := hb2.size
  (try simp at hz2)
  have G2 : Gw w w2 := Gw.trans (G1) hb2
  have o_t12 := own_gw o_t1 hb2
  have lo_w0 := lt_of_own o_w0
  go_wp2_with fail
  refine (l_toWindowS _ _ _ _ hl_l (rd_l.gw G2)).mono ?_
  rintro _ w3 ⟨g_x0, rfl, hg_x0, o_x0, hb3⟩
  have hz3 := hb3.size
  (try simp at hz3)
  have G3 : Gw w w3 := Gw.trans (G2) hb3
  have o_t13 := own_gw o_t12 hb3
  have o_w03 := own_gw o_w0 hb3
  have lo_x0 := lt_of_own o_x0
  go_wp2_with fail
  refine (i_CloseHours _ _ _ _ _ _ hl_l (own_rd o_x0) (Nat.le_refl _)).mono ?_
  rintro _ w4 ⟨A_g0, c_g0, rfl, o_g0, hb4⟩
  have hz4 := hb4.size
  (try simp at hz4)
  have G4 : Gw w w4 := Gw.trans (G3) hb4
  have o_t14 := own_gw o_t13 hb4
  have o_w04 := own_gw o_w03 hb4
  have o_x04 := own_gw o_x0 hb4
  have lo_g0 := lt_of_own o_g0
  go_wp2_with fail
  refine (l_eqWindowS _ _ _ _ _ _ hlr (own_rd o_g0) (own_rd o_w04)).mono ?_
  rintro _ w5 ⟨rfl, hb5⟩
  have hz5 := hb5.size
  (try simp at hz5)
  have G5 : Gw w w5 := Gw.trans (G4) hb5
  have o_t15 := own_gw o_t14 hb5
  have o_w05 := own_gw o_w04 hb5
  have o_x05 := own_gw o_x04 hb5
  have o_g05 := own_gw o_g0 hb5
  go_wp2_with fail
  refine (l_toWindowS _ _ _ _ hl_l (rd_l.gw G5)).mono ?_
  rintro _ w6 ⟨g_t2, rfl, hg_t2, o_t2, hb6⟩
  have hz6 := hb6.size
  (try simp at hz6)
  have G6 : Gw w w6 := Gw.trans (G5) hb6
  have o_t16 := own_gw o_t15 hb6
  have o_w06 := own_gw o_w05 hb6
  have o_x06 := own_gw o_x05 hb6
  have o_g06 := own_gw o_g05 hb6
  have lo_t2 := lt_of_own o_t2
  go_wp2_with fail
  refine (l_eqWindowS _ _ _ _ _ _ hl_l (own_rd o_x06) (own_rd o_t2)).mono ?_
  rintro _ w7 ⟨rfl, hb7⟩
  have hz7 := hb7.size
  (try simp at hz7)
  have G7 : Gw w w7 := Gw.trans (G6) hb7
  have o_t17 := own_gw o_t16 hb7
  have o_w07 := own_gw o_w06 hb7
  have o_x07 := own_gw o_x06 hb7
  have o_g07 := own_gw o_g06 hb7
  have o_t27 := own_gw o_t2 hb7
  go_wp2_with fail
  refine (l_markWindowS _ _ _ _ _ _ _ hl_l (by omega) o_x07).mono ?_
  rintro _ w8 ⟨rfl, m_x0, hg8⟩
  have hz8 := hg8.size
  have G8 := Gw.grown G7 hg8 (fun k hk => by have := lo_x0 k hk; first | omega | (simp; omega))
  have o_t18 := own_mark o_t17 hg8 lo_t1 lo_x0 (by omega)
  have o_w08 := own_mark o_w07 hg8 lo_w0 lo_x0 (by omega)
  have o_g08 := own_mark o_g07 hg8 lo_g0 lo_x0 (by omega)
  have o_t28 := own_mark o_t27 hg8 lo_t2 lo_x0 (by omega)
  go_wp2_with fail
  refine (l_eqWindowS _ _ _ _ _ _ hlr (own_rd o_g08) (own_rd o_w08)).mono ?_
  rintro _ w9 ⟨rfl, hb9⟩
  have hz9 := hb9.size
  (try simp at hz9)
  have G9 : Gw w w9 := Gw.trans (G8) hb9
  have o_t19 := own_gw o_t18 hb9
  have o_w09 := own_gw o_w08 hb9
  have m_x09 := own_gw m_x0 hb9
  have o_g09 := own_gw o_g08 hb9
  have o_t29 := own_gw o_t28 hb9
  go_wp2_with fail
  refine (l_markWindowS _ _ _ _ _ _ _ hlr (by omega) o_g09).mono ?_
  rintro _ w10 ⟨rfl, m_g0, hg10⟩
  have hz10 := hg10.size
  have G10 := Gw.grown G9 hg10 (fun k hk => by have := lo_g0 k hk; first | omega | (simp; omega))
  have o_t110 := own_mark o_t19 hg10 lo_t1 lo_g0 (by omega)
  have o_w010 := own_mark o_w09 hg10 lo_w0 lo_g0 (by omega)
  have m_x010 := own_mark m_x09 hg10 lo_x0 lo_g0 (by omega)
  have o_t210 := own_mark o_t29 hg10 lo_t2 lo_g0 (by omega)
  go_wp2_with fail
  refine (l_heldWindowS _ _ _ _ _ _ hlr (by omega) m_g0).mono ?_
  rintro _ _ ⟨rfl, rfl⟩
  go_wp2_with fail
  refine (l_toWindowS _ _ _ _ hl_l (rd_l.gw G10)).mono ?_
  rintro _ w11 ⟨g_t3, rfl, hg_t3, o_t3, hb11⟩
  have hz11 := hb11.size
  (try simp at hz11)
  have G11 : Gw w w11 := Gw.trans (G10) hb11
  have o_t111 := own_gw o_t110 hb11
  have o_w011 := own_gw o_w010 hb11
  have m_x011 := own_gw m_x010 hb11
  have m_g011 := own_gw m_g0 hb11
  have o_t211 := own_gw o_t210 hb11
  have lo_t3 := lt_of_own o_t3
  go_wp2_with fail
  refine (i_CloseHours _ _ _ _ _ _ hl_l (own_rd o_t3) (Nat.le_refl _)).mono ?_
  rintro _ w12 ⟨A_h0, c_h0, rfl, o_h0, hb12⟩
  have hz12 := hb12.size
  (try simp at hz12)
  have G12 : Gw w w12 := Gw.trans (G11) hb12
  have o_t112 := own_gw o_t111 hb12
  have o_w012 := own_gw o_w011 hb12
  have m_x012 := own_gw m_x011 hb12
  have m_g012 := own_gw m_g011 hb12
  have o_t212 := own_gw o_t211 hb12
  have o_t312 := own_gw o_t3 hb12
  have lo_h0 := lt_of_own o_h0
  go_wp2_with fail
  refine (l_eqWindowS _ _ _ _ _ _ hlr (own_rd o_h0) (own_rd o_w012)).mono ?_
  rintro _ w13 ⟨rfl, hb13⟩
  have hz13 := hb13.size
  (try simp at hz13)
  have G13 : Gw w w13 := Gw.trans (G12) hb13
  have o_t113 := own_gw o_t112 hb13
  have o_w013 := own_gw o_w012 hb13
  have m_x013 := own_gw m_x012 hb13
  have m_g013 := own_gw m_g012 hb13
  have o_t213 := own_gw o_t212 hb13
  have o_t313 := own_gw o_t312 hb13
  have o_h013 := own_gw o_h0 hb13
  go_wp2_with fail
  refine (l_heldWindowS _ _ _ _ _ _ hlr (by omega) m_g013).mono ?_
  rintro _ _ ⟨rfl, rfl⟩
  go_wp2_with fail
  go_ret
  exact ⟨rfl, G13⟩


set_option maxRecDepth 100000 in
theorem lifted (os : Os) (started : os.Started) (H : Type) (enc : TypeId × Value → H) :
    ReturnsInHanded {} Try.checked os 4 .any (Rows.fnExactCloseHoursSpec.pre6 enc Try.prog Try.f4 Rows.fnExactCloseHoursRow.domain false) (Rows.fnExactCloseHoursSpec.post enc Try.prog Try.f4 false true false false) := by
  refine returnsInHanded_of_change (C := Try.checked) own started (by kernel_rfl) Try.func4
    (ChangeSpec.witness6 (enc := enc) (C := Try.checked) false ⟨#[], #[.slice none 0 0, .int .i64 0, .int .i64 0], []⟩ 8 (by kernel_rfl) (by kernel_rfl) (by kernel_rfl) (by kernel_rfl)) ?_
  intro W base args ds gs before hval0 hW hcnd _
  have hval : ∀ (j : Nat) t v, Try.f4.params[j]? = some t → args[j]? = some v → Value.okWide Try.prog W .any base t v := hval0
  have hW' := hW
  have hlt0 : ∀ p ∈ before, p.block < W.heap.size := fun p hp => hW.lt p hp
  obtain ⟨p, q, hA0, hV, rfl, hfz, hnd⟩ := hW
  have hlt : ∀ x ∈ p, x.block < W.heap.size := fun x hx => hlt0 x (List.mem_append_left _ hx)
  have hA : DataW.TrodAll enc Try.prog W 0 (fun _ => true) true Try.f4.params.toList args.toList ds p := hA0
  rw [Try.params4] at hA hval
  obtain ⟨v0, vs0, d0, ds0, p0, q0, hargs, rfl, rfl, h0, r0⟩ := trodAll_cons hA
  obtain ⟨v1, vs1, d1, ds1, p1, q1, rfl, rfl, rfl, h1, r1⟩ := trodAll_cons r0
  obtain ⟨v2, vs2, d2, ds2, p2, q2, rfl, rfl, rfl, h2, r2⟩ := trodAll_cons r1
  obtain ⟨rfl, rfl, rfl⟩ := trodAll_nil r2
  obtain rfl : args = #[v0, v1, v2] := by cases args; simp_all
  obtain ⟨rfl, rfl⟩ := trodVars_none hV
  obtain ⟨A_l, l, c_l, rfl, hlc_l, hmc_l, rd_l, ok_l⟩ := open_rows (α := (Int×Int×Int)) (n := 6) Try.underlying22 (by kernel_rfl) (by kernel_rfl) (hval 0 22 v0 rfl rfl) h0 (fun x hx => hlt x (by simp [hx]))
  have hm_l : l.length ≤ 9223372036854775807 := by have := Nat.le_trans hlc_l hmc_l; unfold maxLen at this; omega
  obtain ⟨f, rfl, rfl, rfl, wf_f⟩ := open_int Try.underlying3 (hval 1 3 v1 rfl rfl) h1
  obtain ⟨t, rfl, rfl, rfl, wf_t⟩ := open_int Try.underlying3 (hval 2 3 v2 rfl rfl) h2
  refine (walk W A_l l c_l hm_l rd_l f wf_f t wf_t).mono fun e W' ⟨he, hg⟩ => ?_
  subst he
  exact ⟨_, rfl, post_law (by kernel_rfl) (by rw [Try.params4]; exact plainTypes (by kernel_rfl)) rfl Try.underlying4 rfl ⟨rfl, rfl, rfl⟩ hW' hg⟩

theorem over : Rows.fnExactCloseHoursRow.holds Try.pinned (OpenSpec.ofChange Rows.fnExactCloseHoursSpec) :=
  OpenClaim.holds_of_wide 4 Try.f4 rfl rfl rfl rfl rfl rfl rfl ⟨rfl, rfl, rfl, rfl, rfl⟩ rfl rfl rfl rfl rfl (by kernel_rfl) Try.func4 (by kernel_rfl)
    (of_decide_eq_true (by kernel_rfl)) (by unfold Func.isWrapper; first | (rw [if_pos (by decide +kernel)]; kernel_rfl) | (rw [if_neg (by decide +kernel)]; exact ⟨rfl, rfl⟩))
    (fun os started H enc _ => lifted os started H enc)

/-- The statement. -/
theorem proved : Rows.FnExactCloseHoursSaid :=
  over
#print axioms proved
end Go.Proofs.Ytegokhpbjhanbaa.lawFnExactCloseHours
