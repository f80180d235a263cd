/-
  The law FnExactIsSchedule answers true at every input, and its arguments read afterwards as they read before.
-/
import Derived.Test.YtigimjcngmcniaaRows
import Derived.Test.YtigimjcngmcniaaSched
import Derived.Test.YtigimjcngmcniaaTell
import Derived.Test.YtigimjcngmcniaaLaw
import Derived.Test.YtigimjcngmcniaaTyWindow
import Derived.Test.YtigimjcngmcniaaTyRehearsal
import Derived.Test.YtigimjcngmcniaaTyBooked
namespace Go.Proofs.Ytigimjcngmcniaa.lawFnExactIsSchedule
open Go.ChangeShapes Go.WideShapes Go.ChangeAt Go.RowKit
set_option linter.unusedVariables false

theorem own : ownKnob Try.prog.godebug = none := by kernel_rfl

-- params: rows:wi:(Int×Int×Int) rows:re:(Int×Int) rows:bo:(Int×Int×Int×Int)
-- import: Sched
-- import: Tell
-- import: Law
-- import: TyWindow
-- import: TyRehearsal
-- import: TyBooked
set_option maxHeartbeats 4000000 in
set_option maxRecDepth 100000 in
theorem walk (w : World) (A_wi : Option Addr) (wi : List (Int × Int × Int)) (c_wi : Nat) (hm_wi : wi.length ≤ 9223372036854775807) (rd_wi : Rd w A_wi wi) (A_re : Option Addr) (re : List (Int × Int)) (c_re : Nat) (hm_re : re.length ≤ 9223372036854775807) (rd_re : Rd w A_re re) (A_bo : Option Addr) (bo : List (Int × Int × Int × Int)) (c_bo : Nat) (hm_bo : bo.length ≤ 9223372036854775807) (rd_bo : Rd w A_bo bo) :
    Calls Try.prog 12 #[.slice A_wi wi.length c_wi, .slice A_re re.length c_re, .slice A_bo bo.length c_bo] w fun e w' => e = .returned (.bool true) ∧ Gw w w' := by
  by_cases hs_wi : wi.length ≤ 1048576
  case neg =>
    go_enter Try.func12, Try.ntmps12
    go_wp2_with (first | (go_at_call 16; refine (l_szWindowS _ _ _ _ _ (by omega) (by omega)).mono ?_; first | (rw [if_neg (by omega)]; rintro e w' ⟨rfl, rfl⟩) | (rw [if_pos (by omega)]; rintro e w' ⟨rfl, rfl⟩)) | (go_at_call 33; refine (l_szRehearsalS _ _ _ _ _ (by omega) (by omega)).mono ?_; first | (rw [if_neg (by omega)]; rintro e w' ⟨rfl, rfl⟩) | (rw [if_pos (by omega)]; rintro e w' ⟨rfl, rfl⟩)) | (go_at_call 38; refine (l_szBookedS _ _ _ _ _ (by omega) (by omega)).mono ?_; first | (rw [if_neg (by omega)]; rintro e w' ⟨rfl, rfl⟩) | (rw [if_pos (by omega)]; rintro e w' ⟨rfl, rfl⟩)))
    go_ret
    exact ⟨rfl, by (repeat (first | with_reducible exact Gw.refl _ | with_reducible assumption | ((with_reducible refine Gw.set ?_ ?_ _); rotate_left; (focus (first | (simp; done) | (simp; omega) | omega))) | with_reducible refine Gw.alloc ?_ _ | with_reducible refine Gw.drew ?_ | with_reducible refine Gw.drewN ?_ _ | (refine Gw.trans ?_ (by with_reducible assumption))))⟩
  by_cases hs_re : wi.length + re.length ≤ 1048576
  case neg =>
    go_enter Try.func12, Try.ntmps12
    go_wp2_with (first | (go_at_call 16; refine (l_szWindowS _ _ _ _ _ (by omega) (by omega)).mono ?_; first | (rw [if_neg (by omega)]; rintro e w' ⟨rfl, rfl⟩) | (rw [if_pos (by omega)]; rintro e w' ⟨rfl, rfl⟩)) | (go_at_call 33; refine (l_szRehearsalS _ _ _ _ _ (by omega) (by omega)).mono ?_; first | (rw [if_neg (by omega)]; rintro e w' ⟨rfl, rfl⟩) | (rw [if_pos (by omega)]; rintro e w' ⟨rfl, rfl⟩)) | (go_at_call 38; refine (l_szBookedS _ _ _ _ _ (by omega) (by omega)).mono ?_; first | (rw [if_neg (by omega)]; rintro e w' ⟨rfl, rfl⟩) | (rw [if_pos (by omega)]; rintro e w' ⟨rfl, rfl⟩)))
    go_ret
    exact ⟨rfl, by (repeat (first | with_reducible exact Gw.refl _ | with_reducible assumption | ((with_reducible refine Gw.set ?_ ?_ _); rotate_left; (focus (first | (simp; done) | (simp; omega) | omega))) | with_reducible refine Gw.alloc ?_ _ | with_reducible refine Gw.drew ?_ | with_reducible refine Gw.drewN ?_ _ | (refine Gw.trans ?_ (by with_reducible assumption))))⟩
  by_cases hs_bo : wi.length + re.length + bo.length ≤ 1048576
  case neg =>
    go_enter Try.func12, Try.ntmps12
    go_wp2_with (first | (go_at_call 16; refine (l_szWindowS _ _ _ _ _ (by omega) (by omega)).mono ?_; first | (rw [if_neg (by omega)]; rintro e w' ⟨rfl, rfl⟩) | (rw [if_pos (by omega)]; rintro e w' ⟨rfl, rfl⟩)) | (go_at_call 33; refine (l_szRehearsalS _ _ _ _ _ (by omega) (by omega)).mono ?_; first | (rw [if_neg (by omega)]; rintro e w' ⟨rfl, rfl⟩) | (rw [if_pos (by omega)]; rintro e w' ⟨rfl, rfl⟩)) | (go_at_call 38; refine (l_szBookedS _ _ _ _ _ (by omega) (by omega)).mono ?_; first | (rw [if_neg (by omega)]; rintro e w' ⟨rfl, rfl⟩) | (rw [if_pos (by omega)]; rintro e w' ⟨rfl, rfl⟩)))
    go_ret
    exact ⟨rfl, by (repeat (first | with_reducible exact Gw.refl _ | with_reducible assumption | ((with_reducible refine Gw.set ?_ ?_ _); rotate_left; (focus (first | (simp; done) | (simp; omega) | omega))) | with_reducible refine Gw.alloc ?_ _ | with_reducible refine Gw.drew ?_ | with_reducible refine Gw.drewN ?_ _ | (refine Gw.trans ?_ (by with_reducible assumption))))⟩
  have hl_wi : wi.length ≤ 1048576 := by omega
  have hl_re : re.length ≤ 1048576 := by omega
  have hl_bo : bo.length ≤ 1048576 := by omega
  go_enter Try.func12, Try.ntmps12
  go_wp2_with fail
  refine (l_szWindowS _ _ _ _ _ (by omega) (by omega)).mono ?_
  rw [if_neg (by omega)]; rintro _ _ ⟨rfl, rfl⟩
  go_wp2_with fail
  refine (l_szRehearsalS _ _ _ _ _ (by omega) (by omega)).mono ?_
  rw [if_neg (by omega)]; rintro _ _ ⟨rfl, rfl⟩
  go_wp2_with fail
  refine (l_szBookedS _ _ _ _ _ (by omega) (by omega)).mono ?_
  rw [if_neg (by omega)]; rintro _ _ ⟨rfl, rfl⟩
  go_wp2_with fail
  refine (l_toWindowS _ _ _ _ hl_wi (rd_wi.gw (Gw.refl w))).mono ?_
  rintro _ w1 ⟨g_t1, rfl, hg_t1, o_t1, hb1⟩
  have hz1 := hb1.size
  (try simp at hz1)
  have G1 : Gw w w1 := Gw.trans ((Gw.refl w)) hb1
  have lo_t1 := lt_of_own o_t1
  go_wp2_with fail
  refine (l_toRehearsalS _ _ _ _ hl_re (rd_re.gw G1)).mono ?_
  rintro _ w2 ⟨g_t2, rfl, hg_t2, o_t2, hb2⟩
  have hz2 := hb2.size
  (try simp at hz2)
  have G2 : Gw w w2 := Gw.trans (G1) hb2
  have o_t12 := own_gw o_t1 hb2
  have lo_t2 := lt_of_own o_t2
  go_wp2_with fail
  refine (l_toBookedS _ _ _ _ hl_bo (rd_bo.gw G2)).mono ?_
  rintro _ w3 ⟨g_t3, rfl, hg_t3, o_t3, hb3⟩
  have hz3 := hb3.size
  (try simp at hz3)
  have G3 : Gw w w3 := Gw.trans (G2) hb3
  have o_t13 := own_gw o_t12 hb3
  have o_t23 := own_gw o_t2 hb3
  have lo_t3 := lt_of_own o_t3
  go_wp2_with fail
  refine (s_IsSchedule _ _ _ _ _ _ _ _ _ _ hl_wi (own_rd o_t13) (Nat.le_refl _) hl_re (own_rd o_t23) (Nat.le_refl _) hl_bo (own_rd o_t3) (Nat.le_refl _)).mono ?_
  rintro _ w4 ⟨rfl, hb4⟩
  have hz4 := hb4.size
  (try simp at hz4)
  have G4 : Gw w w4 := Gw.trans (G3) hb4
  have o_t14 := own_gw o_t13 hb4
  have o_t24 := own_gw o_t23 hb4
  have o_t34 := own_gw o_t3 hb4
  go_wp2_with fail
  refine (l_toWindowS _ _ _ _ hl_wi (rd_wi.gw G4)).mono ?_
  rintro _ w5 ⟨g_x0, rfl, hg_x0, o_x0, hb5⟩
  have hz5 := hb5.size
  (try simp at hz5)
  have G5 : Gw w w5 := Gw.trans (G4) hb5
  have o_t15 := own_gw o_t14 hb5
  have o_t25 := own_gw o_t24 hb5
  have o_t35 := own_gw o_t34 hb5
  have lo_x0 := lt_of_own o_x0
  go_wp2_with fail
  refine (l_toRehearsalS _ _ _ _ hl_re (rd_re.gw G5)).mono ?_
  rintro _ w6 ⟨g_x1, rfl, hg_x1, o_x1, hb6⟩
  have hz6 := hb6.size
  (try simp at hz6)
  have G6 : Gw w w6 := Gw.trans (G5) hb6
  have o_t16 := own_gw o_t15 hb6
  have o_t26 := own_gw o_t25 hb6
  have o_t36 := own_gw o_t35 hb6
  have o_x06 := own_gw o_x0 hb6
  have lo_x1 := lt_of_own o_x1
  go_wp2_with fail
  refine (l_toBookedS _ _ _ _ hl_bo (rd_bo.gw G6)).mono ?_
  rintro _ w7 ⟨g_x2, rfl, hg_x2, o_x2, hb7⟩
  have hz7 := hb7.size
  (try simp at hz7)
  have G7 : Gw w w7 := Gw.trans (G6) hb7
  have o_t17 := own_gw o_t16 hb7
  have o_t27 := own_gw o_t26 hb7
  have o_t37 := own_gw o_t36 hb7
  have o_x07 := own_gw o_x06 hb7
  have o_x17 := own_gw o_x1 hb7
  have lo_x2 := lt_of_own o_x2
  go_wp2_with fail
  refine (i_IsSchedule _ _ _ _ _ _ _ _ _ _ hl_wi (own_rd o_x07) (Nat.le_refl _) hl_re (own_rd o_x17) (Nat.le_refl _) hl_bo (own_rd o_x2) (Nat.le_refl _)).mono ?_
  rintro _ w8 ⟨rfl, hb8⟩
  have hz8 := hb8.size
  (try simp at hz8)
  have G8 : Gw w w8 := Gw.trans (G7) hb8
  have o_t18 := own_gw o_t17 hb8
  have o_t28 := own_gw o_t27 hb8
  have o_t38 := own_gw o_t37 hb8
  have o_x08 := own_gw o_x07 hb8
  have o_x18 := own_gw o_x17 hb8
  have o_x28 := own_gw o_x2 hb8
  go_wp2_with fail
  refine (l_toWindowS _ _ _ _ hl_wi (rd_wi.gw G8)).mono ?_
  rintro _ w9 ⟨g_t4, rfl, hg_t4, o_t4, hb9⟩
  have hz9 := hb9.size
  (try simp at hz9)
  have G9 : Gw w w9 := Gw.trans (G8) hb9
  have o_t19 := own_gw o_t18 hb9
  have o_t29 := own_gw o_t28 hb9
  have o_t39 := own_gw o_t38 hb9
  have o_x09 := own_gw o_x08 hb9
  have o_x19 := own_gw o_x18 hb9
  have o_x29 := own_gw o_x28 hb9
  have lo_t4 := lt_of_own o_t4
  go_wp2_with fail
  refine (l_eqWindowS _ _ _ _ _ _ hl_wi (own_rd o_x09) (own_rd o_t4)).mono ?_
  rintro _ w10 ⟨rfl, hb10⟩
  have hz10 := hb10.size
  (try simp at hz10)
  have G10 : Gw w w10 := Gw.trans (G9) hb10
  have o_t110 := own_gw o_t19 hb10
  have o_t210 := own_gw o_t29 hb10
  have o_t310 := own_gw o_t39 hb10
  have o_x010 := own_gw o_x09 hb10
  have o_x110 := own_gw o_x19 hb10
  have o_x210 := own_gw o_x29 hb10
  have o_t410 := own_gw o_t4 hb10
  go_wp2_with fail
  refine (l_toRehearsalS _ _ _ _ hl_re (rd_re.gw G10)).mono ?_
  rintro _ w11 ⟨g_t5, rfl, hg_t5, o_t5, hb11⟩
  have hz11 := hb11.size
  (try simp at hz11)
  have G11 : Gw w w11 := Gw.trans (G10) hb11
  have o_t111 := own_gw o_t110 hb11
  have o_t211 := own_gw o_t210 hb11
  have o_t311 := own_gw o_t310 hb11
  have o_x011 := own_gw o_x010 hb11
  have o_x111 := own_gw o_x110 hb11
  have o_x211 := own_gw o_x210 hb11
  have o_t411 := own_gw o_t410 hb11
  have lo_t5 := lt_of_own o_t5
  go_wp2_with fail
  refine (l_eqRehearsalS _ _ _ _ _ _ hl_re (own_rd o_x111) (own_rd o_t5)).mono ?_
  rintro _ w12 ⟨rfl, hb12⟩
  have hz12 := hb12.size
  (try simp at hz12)
  have G12 : Gw w w12 := Gw.trans (G11) hb12
  have o_t112 := own_gw o_t111 hb12
  have o_t212 := own_gw o_t211 hb12
  have o_t312 := own_gw o_t311 hb12
  have o_x012 := own_gw o_x011 hb12
  have o_x112 := own_gw o_x111 hb12
  have o_x212 := own_gw o_x211 hb12
  have o_t412 := own_gw o_t411 hb12
  have o_t512 := own_gw o_t5 hb12
  go_wp2_with fail
  refine (l_toBookedS _ _ _ _ hl_bo (rd_bo.gw G12)).mono ?_
  rintro _ w13 ⟨g_t6, rfl, hg_t6, o_t6, hb13⟩
  have hz13 := hb13.size
  (try simp at hz13)
  have G13 : Gw w w13 := Gw.trans (G12) hb13
  have o_t113 := own_gw o_t112 hb13
  have o_t213 := own_gw o_t212 hb13
  have o_t313 := own_gw o_t312 hb13
  have o_x013 := own_gw o_x012 hb13
  have o_x113 := own_gw o_x112 hb13
  have o_x213 := own_gw o_x212 hb13
  have o_t413 := own_gw o_t412 hb13
  have o_t513 := own_gw o_t512 hb13
  have lo_t6 := lt_of_own o_t6
  go_wp2_with fail
  refine (l_eqBookedS _ _ _ _ _ _ hl_bo (own_rd o_x213) (own_rd o_t6)).mono ?_
  rintro _ w14 ⟨rfl, hb14⟩
  have hz14 := hb14.size
  (try simp at hz14)
  have G14 : Gw w w14 := Gw.trans (G13) hb14
  have o_t114 := own_gw o_t113 hb14
  have o_t214 := own_gw o_t213 hb14
  have o_t314 := own_gw o_t313 hb14
  have o_x014 := own_gw o_x013 hb14
  have o_x114 := own_gw o_x113 hb14
  have o_x214 := own_gw o_x213 hb14
  have o_t414 := own_gw o_t413 hb14
  have o_t514 := own_gw o_t513 hb14
  have o_t614 := own_gw o_t6 hb14
  go_wp2_with fail
  go_ret
  exact ⟨rfl, G14⟩


set_option maxRecDepth 100000 in
theorem lifted (os : Os) (started : os.Started) (H : Type) (enc : TypeId × Value → H) :
    ReturnsInHanded {} Try.checked os 12 .any (Rows.fnExactIsScheduleSpec.pre6 enc Try.prog Try.f12 Rows.fnExactIsScheduleRow.domain false) (Rows.fnExactIsScheduleSpec.post enc Try.prog Try.f12 false true false false) := by
  refine returnsInHanded_of_change (C := Try.checked) own started (by kernel_rfl) Try.func12
    (ChangeSpec.witness6 (enc := enc) (C := Try.checked) false ⟨#[], #[.slice none 0 0, .slice none 0 0, .slice none 0 0], []⟩ 8 (by kernel_rfl) (by kernel_rfl) (by kernel_rfl) (by kernel_rfl)) ?_
  intro W base args ds gs before hval0 hW hcnd _
  have hval : ∀ (j : Nat) t v, Try.f12.params[j]? = some t → args[j]? = some v → Value.okWide Try.prog W .any base t v := hval0
  have hW' := hW
  have hlt0 : ∀ p ∈ before, p.block < W.heap.size := fun p hp => hW.lt p hp
  obtain ⟨p, q, hA0, hV, rfl, hfz, hnd⟩ := hW
  have hlt : ∀ x ∈ p, x.block < W.heap.size := fun x hx => hlt0 x (List.mem_append_left _ hx)
  have hA : DataW.TrodAll enc Try.prog W 0 (fun _ => true) true Try.f12.params.toList args.toList ds p := hA0
  rw [Try.params12] at hA hval
  obtain ⟨v0, vs0, d0, ds0, p0, q0, hargs, rfl, rfl, h0, r0⟩ := trodAll_cons hA
  obtain ⟨v1, vs1, d1, ds1, p1, q1, rfl, rfl, rfl, h1, r1⟩ := trodAll_cons r0
  obtain ⟨v2, vs2, d2, ds2, p2, q2, rfl, rfl, rfl, h2, r2⟩ := trodAll_cons r1
  obtain ⟨rfl, rfl, rfl⟩ := trodAll_nil r2
  obtain rfl : args = #[v0, v1, v2] := by cases args; simp_all
  obtain ⟨rfl, rfl⟩ := trodVars_none hV
  obtain ⟨A_wi, wi, c_wi, rfl, hlc_wi, hmc_wi, rd_wi, ok_wi⟩ := open_rows (α := (Int×Int×Int)) (n := 6) Try.underlying22 (by kernel_rfl) (by kernel_rfl) (hval 0 22 v0 rfl rfl) h0 (fun x hx => hlt x (by simp [hx]))
  have hm_wi : wi.length ≤ 9223372036854775807 := by have := Nat.le_trans hlc_wi hmc_wi; unfold maxLen at this; omega
  obtain ⟨A_re, re, c_re, rfl, hlc_re, hmc_re, rd_re, ok_re⟩ := open_rows (α := (Int×Int)) (n := 6) Try.underlying45 (by kernel_rfl) (by kernel_rfl) (hval 1 45 v1 rfl rfl) h1 (fun x hx => hlt x (by simp [hx]))
  have hm_re : re.length ≤ 9223372036854775807 := by have := Nat.le_trans hlc_re hmc_re; unfold maxLen at this; omega
  obtain ⟨A_bo, bo, c_bo, rfl, hlc_bo, hmc_bo, rd_bo, ok_bo⟩ := open_rows (α := (Int×Int×Int×Int)) (n := 6) Try.underlying52 (by kernel_rfl) (by kernel_rfl) (hval 2 52 v2 rfl rfl) h2 (fun x hx => hlt x (by simp [hx]))
  have hm_bo : bo.length ≤ 9223372036854775807 := by have := Nat.le_trans hlc_bo hmc_bo; unfold maxLen at this; omega
  refine (walk W A_wi wi c_wi hm_wi rd_wi A_re re c_re hm_re rd_re A_bo bo c_bo hm_bo rd_bo).mono fun e W' ⟨he, hg⟩ => ?_
  subst he
  exact ⟨_, rfl, post_law (by kernel_rfl) (by rw [Try.params12]; exact plainTypes (by kernel_rfl)) rfl Try.underlying4 rfl ⟨rfl, rfl, rfl⟩ hW' hg⟩

theorem over : Rows.fnExactIsScheduleRow.holds Try.pinned (OpenSpec.ofChange Rows.fnExactIsScheduleSpec) :=
  OpenClaim.holds_of_wide 12 Try.f12 rfl rfl rfl rfl rfl rfl rfl ⟨rfl, rfl, rfl, rfl, rfl⟩ rfl rfl rfl rfl rfl (by kernel_rfl) Try.func12 (by kernel_rfl)
    (of_decide_eq_true (by kernel_rfl)) (by unfold Func.isWrapper; first | (rw [if_pos (by decide +kernel)]; kernel_rfl) | (rw [if_neg (by decide +kernel)]; exact ⟨rfl, rfl⟩))
    (fun os started H enc _ => lifted os started H enc)

/-- The statement. -/
theorem proved : Rows.FnExactIsScheduleSaid :=
  over
#print axioms proved
end Go.Proofs.Ytigimjcngmcniaa.lawFnExactIsSchedule
