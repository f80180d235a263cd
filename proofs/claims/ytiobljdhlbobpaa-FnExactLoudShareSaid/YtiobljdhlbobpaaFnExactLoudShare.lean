/-
  The law FnExactLoudShare answers true at every input, and its arguments read afterwards as they read before.
-/
import Derived.Test.YtiobljdhlbobpaaRows
import Derived.Test.YtiobljdhlbobpaaSec
import Derived.Test.YtiobljdhlbobpaaSecA
import Derived.Test.YtiobljdhlbobpaaLaw
import Derived.Test.YtiobljdhlbobpaaTySection
import Derived.Test.YtiobljdhlbobpaaTell
import Derived.Test.YtiobljdhlbobpaaNum
namespace Go.Proofs.Ytiobljdhlbobpaa.lawFnExactLoudShare
open Go.ChangeShapes Go.WideShapes Go.ChangeAt Go.RowKit
set_option linter.unusedVariables false

theorem own : ownKnob Try.prog.godebug = none := by kernel_rfl

-- params: rows:l:(ByteArray×Int×Int) int:i
-- import: Sec
-- import: SecA
-- import: Law
-- import: TySection
-- import: Tell
-- import: Num
set_option maxHeartbeats 4000000 in
set_option maxRecDepth 100000 in
theorem walk (w : World) (A_l : Option Addr) (l : List (ByteArray × Int × Int)) (c_l : Nat) (hm_l : l.length ≤ 9223372036854775807) (rd_l : Rd w A_l l) (hz_l : ∀ x ∈ l, x.1.size ≤ 9223372036854775807) (i : Int) (wf_i : (Lit.int .i64 i).wf = true) :
    Calls Try.prog 6 #[.slice A_l l.length c_l, .int .i64 i] w fun e w' => e = .returned (.bool true) ∧ Gw w w' := by
  by_cases hs_l : l.length + nameSum l ≤ 1048576
  case neg =>
    go_enter Try.func6, Try.ntmps6
    go_wp2_with fail
    refine (l_szSectionS _ _ _ _ _ hm_l hz_l (by omega) (rd_l.gw (by (repeat (first | with_reducible exact Gw.refl _ | with_reducible assumption | ((with_reducible refine Gw.set ?_ ?_ _); rotate_left; (focus (first | (simp; done) | (simp; omega) | omega))) | with_reducible refine Gw.alloc ?_ _ | with_reducible refine Gw.drew ?_ | with_reducible refine Gw.drewN ?_ _ | (refine Gw.trans ?_ (by with_reducible assumption))))))).mono ?_
    rw [szRes_no (by omega)]; rintro _ w' ⟨rfl, hb⟩
    go_wp2_with fail
    go_ret
    exact ⟨rfl, by (repeat (first | with_reducible exact Gw.refl _ | with_reducible assumption | ((with_reducible refine Gw.set ?_ ?_ _); rotate_left; (focus (first | (simp; done) | (simp; omega) | omega))) | with_reducible refine Gw.alloc ?_ _ | with_reducible refine Gw.drew ?_ | with_reducible refine Gw.drewN ?_ _ | (refine Gw.trans ?_ (by with_reducible assumption))))⟩
  have hl_l : l.length ≤ 1048576 := by omega
  go_enter Try.func6, Try.ntmps6
  go_wp2_with fail
  refine (l_szSectionS _ _ _ _ _ hm_l hz_l (by omega) (rd_l.gw (Gw.refl w))).mono ?_
  rintro _ w1 ⟨he_sz, hb1⟩
  have hz1 := hb1.size
  (try simp at hz1)
  have G1 : Gw w w1 := Gw.trans ((Gw.refl w)) hb1
  rw [szRes_yes (by omega)] at he_sz; subst he_sz
  go_wp2_with fail
  refine (l_toSectionS _ _ _ _ hl_l (rd_l.gw G1)).mono ?_
  rintro _ w2 ⟨g_t1, rfl, hg_t1, o_t1, hb2⟩
  have hz2 := hb2.size
  (try simp at hz2)
  have G2 : Gw w w2 := Gw.trans (G1) hb2
  have lo_t1 := lt_of_own o_t1
  go_wp2_with fail
  refine (s_LoudShare _ _ _ _ _ hl_l hz_l (own_rd o_t1) (Nat.le_refl _)).mono ?_
  rintro _ w3 ⟨rfl, hb3⟩
  have hz3 := hb3.size
  (try simp at hz3)
  have G3 : Gw w w3 := Gw.trans (G2) hb3
  have o_t13 := own_gw o_t1 hb3
  go_wp2_with fail
  refine (l_toSectionS _ _ _ _ hl_l (rd_l.gw G3)).mono ?_
  rintro _ w4 ⟨g_x0, rfl, hg_x0, o_x0, hb4⟩
  have hz4 := hb4.size
  (try simp at hz4)
  have G4 : Gw w w4 := Gw.trans (G3) hb4
  have o_t14 := own_gw o_t13 hb4
  have lo_x0 := lt_of_own o_x0
  go_wp2_with fail
  refine (i_LoudShare _ _ _ _ _ hl_l hz_l (own_rd o_x0) (Nat.le_refl _)).mono ?_
  rintro _ w5 ⟨rfl, hb5⟩
  have hz5 := hb5.size
  (try simp at hz5)
  have G5 : Gw w w5 := Gw.trans (G4) hb5
  have o_t15 := own_gw o_t14 hb5
  have o_x05 := own_gw o_x0 hb5
  go_wp2_with fail
  refine (l_toSectionS _ _ _ _ hl_l (rd_l.gw G5)).mono ?_
  rintro _ w6 ⟨g_t2, rfl, hg_t2, o_t2, hb6⟩
  have hz6 := hb6.size
  (try simp at hz6)
  have G6 : Gw w w6 := Gw.trans (G5) hb6
  have o_t16 := own_gw o_t15 hb6
  have o_x06 := own_gw o_x05 hb6
  have lo_t2 := lt_of_own o_t2
  go_wp2_with fail
  refine (l_eqSectionS _ _ _ _ _ _ hl_l (own_rd o_x06) (own_rd o_t2)).mono ?_
  rintro _ w7 ⟨rfl, hb7⟩
  have hz7 := hb7.size
  (try simp at hz7)
  have G7 : Gw w w7 := Gw.trans (G6) hb7
  have o_t17 := own_gw o_t16 hb7
  have o_x07 := own_gw o_x06 hb7
  have o_t27 := own_gw o_t2 hb7
  go_wp2_with fail
  go_ret
  exact ⟨rfl, G7⟩


set_option maxRecDepth 100000 in
theorem lifted (os : Os) (started : os.Started) (H : Type) (enc : TypeId × Value → H) :
    ReturnsInHanded {} Try.checked os 6 .any (Rows.fnExactLoudShareSpec.pre6 enc Try.prog Try.f6 Rows.fnExactLoudShareRow.domain false) (Rows.fnExactLoudShareSpec.post enc Try.prog Try.f6 false true false false) := by
  refine returnsInHanded_of_change (C := Try.checked) own started (by kernel_rfl) Try.func6
    (ChangeSpec.witness6 (enc := enc) (C := Try.checked) false ⟨#[], #[.slice none 0 0, .int .i64 0], []⟩ 8 (by kernel_rfl) (by kernel_rfl) (by kernel_rfl) (by kernel_rfl)) ?_
  intro W base args ds gs before hval0 hW hcnd _
  have hval : ∀ (j : Nat) t v, Try.f6.params[j]? = some t → args[j]? = some v → Value.okWide Try.prog W .any base t v := hval0
  have hW' := hW
  have hlt0 : ∀ p ∈ before, p.block < W.heap.size := fun p hp => hW.lt p hp
  obtain ⟨p, q, hA0, hV, rfl, hfz, hnd⟩ := hW
  have hlt : ∀ x ∈ p, x.block < W.heap.size := fun x hx => hlt0 x (List.mem_append_left _ hx)
  have hA : DataW.TrodAll enc Try.prog W 0 (fun _ => true) true Try.f6.params.toList args.toList ds p := hA0
  rw [Try.params6] at hA hval
  obtain ⟨v0, vs0, d0, ds0, p0, q0, hargs, rfl, rfl, h0, r0⟩ := trodAll_cons hA
  obtain ⟨v1, vs1, d1, ds1, p1, q1, rfl, rfl, rfl, h1, r1⟩ := trodAll_cons r0
  obtain ⟨rfl, rfl, rfl⟩ := trodAll_nil r1
  obtain rfl : args = #[v0, v1] := by cases args; simp_all
  obtain ⟨rfl, rfl⟩ := trodVars_none hV
  obtain ⟨A_l, l, c_l, rfl, hlc_l, hmc_l, rd_l, ok_l⟩ := open_rows (α := (ByteArray×Int×Int)) (n := 6) Try.underlying22 (by kernel_rfl) (by kernel_rfl) (hval 0 22 v0 rfl rfl) h0 (fun x hx => hlt x (by simp [hx]))
  have hm_l : l.length ≤ 9223372036854775807 := by have := Nat.le_trans hlc_l hmc_l; unfold maxLen at this; omega
  have hz_l : ∀ x ∈ l, x.1.size ≤ 9223372036854775807 := fun x hx => by have := (ok_l x hx).1; unfold maxLen at this; omega
  obtain ⟨i, rfl, rfl, rfl, wf_i⟩ := open_int Try.underlying3 (hval 1 3 v1 rfl rfl) h1
  refine (walk W A_l l c_l hm_l rd_l hz_l i wf_i).mono fun e W' ⟨he, hg⟩ => ?_
  subst he
  exact ⟨_, rfl, post_law (by kernel_rfl) (by rw [Try.params6]; exact plainTypes (by kernel_rfl)) rfl Try.underlying4 rfl ⟨rfl, rfl, rfl⟩ hW' hg⟩

theorem over : Rows.fnExactLoudShareRow.holds Try.pinned (OpenSpec.ofChange Rows.fnExactLoudShareSpec) :=
  OpenClaim.holds_of_wide 6 Try.f6 rfl rfl rfl rfl rfl rfl rfl ⟨rfl, rfl, rfl, rfl, rfl⟩ rfl rfl rfl rfl rfl (by kernel_rfl) Try.func6 (by kernel_rfl)
    (of_decide_eq_true (by kernel_rfl)) (by unfold Func.isWrapper; first | (rw [if_pos (by decide +kernel)]; kernel_rfl) | (rw [if_neg (by decide +kernel)]; exact ⟨rfl, rfl⟩))
    (fun os started H enc _ => lifted os started H enc)

/-- The statement. -/
theorem proved : Rows.FnExactLoudShareSaid :=
  over
#print axioms proved
end Go.Proofs.Ytiobljdhlbobpaa.lawFnExactLoudShare
