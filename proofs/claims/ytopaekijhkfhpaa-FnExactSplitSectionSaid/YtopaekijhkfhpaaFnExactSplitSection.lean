/-
  The law FnExactSplitSection answers true at every input, and its arguments read afterwards as they read before.
-/
import Derived.Test.YtopaekijhkfhpaaRows
import Derived.Test.YtopaekijhkfhpaaSec
import Derived.Test.YtopaekijhkfhpaaSecA
import Derived.Test.YtopaekijhkfhpaaSecB
import Derived.Test.YtopaekijhkfhpaaSecC
import Derived.Test.YtopaekijhkfhpaaSecD
import Derived.Test.YtopaekijhkfhpaaLaw
import Derived.Test.YtopaekijhkfhpaaTySection
import Derived.Test.YtopaekijhkfhpaaTell
import Derived.Test.YtopaekijhkfhpaaNum
import Derived.Test.YtopaekijhkfhpaaTyInt
import Derived.Test.YtopaekijhkfhpaaAppend
import Derived.Test.YtopaekijhkfhpaaStep
import Derived.Test.YtopaekijhkfhpaaDel
import Derived.Test.YtopaekijhkfhpaaIns
import Derived.Test.YtopaekijhkfhpaaInsB
import Derived.Test.YtopaekijhkfhpaaInsC
import Derived.Test.YtopaekijhkfhpaaSplit
import Derived.Test.YtopaekijhkfhpaaSplitS
import Derived.ChangeMaps5
namespace Go.Proofs.Ytopaekijhkfhpaa.lawFnExactSplitSection
open Go.ChangeShapes Go.WideShapes Go.ChangeAt Go.RowKit
set_option linter.unusedVariables false

theorem own : ownKnob Try.prog.godebug = none := by kernel_rfl

-- params: rows:l:(ByteArray×Int×Int) int:i int:n str:s
-- import: Sec
-- import: SecA
-- import: SecB
-- import: SecC
-- import: SecD
-- import: Law
-- import: TySection
-- import: Tell
-- import: Num
-- import: TyInt
-- import: Append
-- import: Step
-- import: Del
-- import: Ins
-- import: InsB
-- import: InsC
-- import: Split
-- import: SplitS
set_option maxHeartbeats 4000000 in
set_option maxRecDepth 100000 in
theorem walk (w : World) (A_l : Option Addr) (l : List (ByteArray × Int × Int)) (c_l : Nat) (hm_l : l.length ≤ 9223372036854775807) (rd_l : Rd w A_l l) (hz_l : ∀ x ∈ l, x.1.size ≤ 9223372036854775807) (i : Int) (wf_i : (Lit.int .i64 i).wf = true) (n : Int) (wf_n : (Lit.int .i64 n).wf = true) (s : ByteArray) (ws_s : s.size ≤ maxLen) :
    Calls Try.prog 4 #[.slice A_l l.length c_l, .int .i64 i, .int .i64 n, .string s] w fun e w' => e = .returned (.bool true) ∧ Gw w w' := by
  have hwn_s : s.size ≤ 9223372036854775807 := by unfold maxLen at ws_s; omega
  by_cases hsn_s : (s.size : Int) ≤ 1048576
  case neg =>
    go_enter Try.func4, Try.ntmps4
    go_wp2_with fail
    go_ret
    exact ⟨rfl, by (repeat (first | with_reducible exact Gw.refl _ | with_reducible assumption | ((with_reducible refine Gw.set ?_ ?_ _); rotate_left; (focus (first | (simp; done) | (simp; omega) | omega))) | with_reducible refine Gw.alloc ?_ _ | with_reducible refine Gw.drew ?_ | with_reducible refine Gw.drewN ?_ _ | (refine Gw.trans ?_ (by with_reducible assumption))))⟩
  by_cases hs_l : l.length + nameSum l ≤ 1048576
  case neg =>
    go_enter Try.func4, Try.ntmps4
    go_wp2_with fail
    refine (l_szSectionS _ _ _ _ _ hm_l hz_l (by omega) (rd_l.gw (by (repeat (first | with_reducible exact Gw.refl _ | with_reducible assumption | ((with_reducible refine Gw.set ?_ ?_ _); rotate_left; (focus (first | (simp; done) | (simp; omega) | omega))) | with_reducible refine Gw.alloc ?_ _ | with_reducible refine Gw.drew ?_ | with_reducible refine Gw.drewN ?_ _ | (refine Gw.trans ?_ (by with_reducible assumption))))))).mono ?_
    rw [szRes_no (by omega)]; rintro _ w' ⟨rfl, hb⟩
    go_wp2_with fail
    go_ret
    exact ⟨rfl, by (repeat (first | with_reducible exact Gw.refl _ | with_reducible assumption | ((with_reducible refine Gw.set ?_ ?_ _); rotate_left; (focus (first | (simp; done) | (simp; omega) | omega))) | with_reducible refine Gw.alloc ?_ _ | with_reducible refine Gw.drew ?_ | with_reducible refine Gw.drewN ?_ _ | (refine Gw.trans ?_ (by with_reducible assumption))))⟩
  have hl_l : l.length ≤ 1048576 := by omega
  go_enter Try.func4, Try.ntmps4
  have hlr : (splitF l i n s).1.length ≤ 1048576 := splitF_len l i n s
  go_wp2_with fail
  refine (l_szSectionS _ _ _ _ _ hm_l hz_l (by omega) (rd_l.gw (Gw.refl w))).mono ?_
  rintro _ w1 ⟨he_sz, hb1⟩
  have hz1 := hb1.size
  (try simp at hz1)
  have G1 : Gw w w1 := Gw.trans ((Gw.refl w)) hb1
  rw [szRes_yes (by omega)] at he_sz; subst he_sz
  go_wp2_with fail
  refine (l_toSectionS _ _ _ _ hl_l (rd_l.gw G1)).mono ?_
  rintro _ w2 ⟨g_t1, rfl, hg_t1, o_t1, hb2⟩
  have hz2 := hb2.size
  (try simp at hz2)
  have G2 : Gw w w2 := Gw.trans (G1) hb2
  have lo_t1 := lt_of_own o_t1
  go_wp2_with fail
  refine (s_SplitSection _ _ _ _ _ _ _ hl_l hz_l (own_rd o_t1) (Nat.le_refl _) hwn_s).mono ?_
  rintro _ w3 ⟨A_w0, c_w0, rfl, o_w0, hb3⟩
  have hz3 := hb3.size
  (try simp at hz3)
  have G3 : Gw w w3 := Gw.trans (G2) hb3
  have o_t13 := own_gw o_t1 hb3
  have lo_w0 := lt_of_own o_w0
  go_wp2_with fail
  refine (l_toSectionS _ _ _ _ hl_l (rd_l.gw G3)).mono ?_
  rintro _ w4 ⟨g_x0, rfl, hg_x0, o_x0, hb4⟩
  have hz4 := hb4.size
  (try simp at hz4)
  have G4 : Gw w w4 := Gw.trans (G3) hb4
  have o_t14 := own_gw o_t13 hb4
  have o_w04 := own_gw o_w0 hb4
  have lo_x0 := lt_of_own o_x0
  go_wp2_with fail
  refine (i_SplitSection _ _ _ _ _ _ _ hl_l hz_l (own_rd o_x0) (Nat.le_refl _) hwn_s).mono ?_
  rintro _ w5 ⟨A_g0, c_g0, rfl, o_g0, hb5⟩
  have hz5 := hb5.size
  (try simp at hz5)
  have G5 : Gw w w5 := Gw.trans (G4) hb5
  have o_t15 := own_gw o_t14 hb5
  have o_w05 := own_gw o_w04 hb5
  have o_x05 := own_gw o_x0 hb5
  have lo_g0 := lt_of_own o_g0
  go_wp2_with fail
  refine (l_eqSectionS _ _ _ _ _ _ hlr (own_rd o_g0) (own_rd o_w05)).mono ?_
  rintro _ w6 ⟨rfl, hb6⟩
  have hz6 := hb6.size
  (try simp at hz6)
  have G6 : Gw w w6 := Gw.trans (G5) hb6
  have o_t16 := own_gw o_t15 hb6
  have o_w06 := own_gw o_w05 hb6
  have o_x06 := own_gw o_x05 hb6
  have o_g06 := own_gw o_g0 hb6
  go_wp2_with fail
  refine (l_toSectionS _ _ _ _ hl_l (rd_l.gw G6)).mono ?_
  rintro _ w7 ⟨g_t2, rfl, hg_t2, o_t2, hb7⟩
  have hz7 := hb7.size
  (try simp at hz7)
  have G7 : Gw w w7 := Gw.trans (G6) hb7
  have o_t17 := own_gw o_t16 hb7
  have o_w07 := own_gw o_w06 hb7
  have o_x07 := own_gw o_x06 hb7
  have o_g07 := own_gw o_g06 hb7
  have lo_t2 := lt_of_own o_t2
  go_wp2_with fail
  refine (l_eqSectionS _ _ _ _ _ _ hl_l (own_rd o_x07) (own_rd o_t2)).mono ?_
  rintro _ w8 ⟨rfl, hb8⟩
  have hz8 := hb8.size
  (try simp at hz8)
  have G8 : Gw w w8 := Gw.trans (G7) hb8
  have o_t18 := own_gw o_t17 hb8
  have o_w08 := own_gw o_w07 hb8
  have o_x08 := own_gw o_x07 hb8
  have o_g08 := own_gw o_g07 hb8
  have o_t28 := own_gw o_t2 hb8
  go_wp2_with fail
  refine (l_markSectionS _ _ _ _ _ _ _ hl_l (by omega) o_x08).mono ?_
  rintro _ w9 ⟨rfl, m_x0, hg9⟩
  have hz9 := hg9.size
  have G9 := Gw.grown G8 hg9 (fun k hk => by have := lo_x0 k hk; first | omega | (simp; omega))
  have o_t19 := own_mark o_t18 hg9 lo_t1 lo_x0 (by omega)
  have o_w09 := own_mark o_w08 hg9 lo_w0 lo_x0 (by omega)
  have o_g09 := own_mark o_g08 hg9 lo_g0 lo_x0 (by omega)
  have o_t29 := own_mark o_t28 hg9 lo_t2 lo_x0 (by omega)
  go_wp2_with fail
  refine (l_eqSectionS _ _ _ _ _ _ hlr (own_rd o_g09) (own_rd o_w09)).mono ?_
  rintro _ w10 ⟨rfl, hb10⟩
  have hz10 := hb10.size
  (try simp at hz10)
  have G10 : Gw w w10 := Gw.trans (G9) hb10
  have o_t110 := own_gw o_t19 hb10
  have o_w010 := own_gw o_w09 hb10
  have m_x010 := own_gw m_x0 hb10
  have o_g010 := own_gw o_g09 hb10
  have o_t210 := own_gw o_t29 hb10
  go_wp2_with fail
  refine (l_markSectionS _ _ _ _ _ _ _ hlr (by omega) o_g010).mono ?_
  rintro _ w11 ⟨rfl, m_g0, hg11⟩
  have hz11 := hg11.size
  have G11 := Gw.grown G10 hg11 (fun k hk => by have := lo_g0 k hk; first | omega | (simp; omega))
  have o_t111 := own_mark o_t110 hg11 lo_t1 lo_g0 (by omega)
  have o_w011 := own_mark o_w010 hg11 lo_w0 lo_g0 (by omega)
  have m_x011 := own_mark m_x010 hg11 lo_x0 lo_g0 (by omega)
  have o_t211 := own_mark o_t210 hg11 lo_t2 lo_g0 (by omega)
  go_wp2_with fail
  refine (l_heldSectionS _ _ _ _ _ _ hlr (by omega) m_g0).mono ?_
  rintro _ w12 ⟨rfl, hb12⟩
  have hz12 := hb12.size
  (try simp at hz12)
  have G12 : Gw w w12 := Gw.trans (G11) hb12
  have o_t112 := own_gw o_t111 hb12
  have o_w012 := own_gw o_w011 hb12
  have m_x012 := own_gw m_x011 hb12
  have m_g012 := own_gw m_g0 hb12
  have o_t212 := own_gw o_t211 hb12
  go_wp2_with fail
  refine (l_toSectionS _ _ _ _ hl_l (rd_l.gw G12)).mono ?_
  rintro _ w13 ⟨g_t3, rfl, hg_t3, o_t3, hb13⟩
  have hz13 := hb13.size
  (try simp at hz13)
  have G13 : Gw w w13 := Gw.trans (G12) hb13
  have o_t113 := own_gw o_t112 hb13
  have o_w013 := own_gw o_w012 hb13
  have m_x013 := own_gw m_x012 hb13
  have m_g013 := own_gw m_g012 hb13
  have o_t213 := own_gw o_t212 hb13
  have lo_t3 := lt_of_own o_t3
  go_wp2_with fail
  refine (i_SplitSection _ _ _ _ _ _ _ hl_l hz_l (own_rd o_t3) (Nat.le_refl _) hwn_s).mono ?_
  rintro _ w14 ⟨A_h0, c_h0, rfl, o_h0, hb14⟩
  have hz14 := hb14.size
  (try simp at hz14)
  have G14 : Gw w w14 := Gw.trans (G13) hb14
  have o_t114 := own_gw o_t113 hb14
  have o_w014 := own_gw o_w013 hb14
  have m_x014 := own_gw m_x013 hb14
  have m_g014 := own_gw m_g013 hb14
  have o_t214 := own_gw o_t213 hb14
  have o_t314 := own_gw o_t3 hb14
  have lo_h0 := lt_of_own o_h0
  go_wp2_with fail
  refine (l_eqSectionS _ _ _ _ _ _ hlr (own_rd o_h0) (own_rd o_w014)).mono ?_
  rintro _ w15 ⟨rfl, hb15⟩
  have hz15 := hb15.size
  (try simp at hz15)
  have G15 : Gw w w15 := Gw.trans (G14) hb15
  have o_t115 := own_gw o_t114 hb15
  have o_w015 := own_gw o_w014 hb15
  have m_x015 := own_gw m_x014 hb15
  have m_g015 := own_gw m_g014 hb15
  have o_t215 := own_gw o_t214 hb15
  have o_t315 := own_gw o_t314 hb15
  have o_h015 := own_gw o_h0 hb15
  go_wp2_with fail
  refine (l_heldSectionS _ _ _ _ _ _ hlr (by omega) m_g015).mono ?_
  rintro _ w16 ⟨rfl, hb16⟩
  have hz16 := hb16.size
  (try simp at hz16)
  have G16 : Gw w w16 := Gw.trans (G15) hb16
  have o_t116 := own_gw o_t115 hb16
  have o_w016 := own_gw o_w015 hb16
  have m_x016 := own_gw m_x015 hb16
  have m_g016 := own_gw m_g015 hb16
  have o_t216 := own_gw o_t215 hb16
  have o_t316 := own_gw o_t315 hb16
  have o_h016 := own_gw o_h015 hb16
  go_wp2_with fail
  go_ret
  exact ⟨rfl, G16⟩


set_option maxRecDepth 100000 in
theorem lifted (os : Os) (started : os.Started) (H : Type) (enc : TypeId × Value → H) :
    ReturnsInHanded {} Try.checked os 4 .any (Rows.fnExactSplitSectionSpec.pre6 enc Try.prog Try.f4 Rows.fnExactSplitSectionRow.domain false) (Rows.fnExactSplitSectionSpec.post enc Try.prog Try.f4 false true false false) := by
  refine returnsInHanded_of_change (C := Try.checked) own started (by kernel_rfl) Try.func4
    (ChangeSpec.witness6 (enc := enc) (C := Try.checked) false ⟨#[], #[.slice none 0 0, .int .i64 0, .int .i64 0, .string ByteArray.empty], []⟩ 8 (by kernel_rfl) (by kernel_rfl) (by kernel_rfl) (by kernel_rfl)) ?_
  intro W base args ds gs before hval0 hW hcnd _
  have hval : ∀ (j : Nat) t v, Try.f4.params[j]? = some t → args[j]? = some v → Value.okWide Try.prog W .any base t v := hval0
  have hW' := hW
  have hlt0 : ∀ p ∈ before, p.block < W.heap.size := fun p hp => hW.lt p hp
  obtain ⟨p, q, hA0, hV, rfl, hfz, hnd⟩ := hW
  have hlt : ∀ x ∈ p, x.block < W.heap.size := fun x hx => hlt0 x (List.mem_append_left _ hx)
  have hA : DataW.TrodAll enc Try.prog W 0 (fun _ => true) true Try.f4.params.toList args.toList ds p := hA0
  rw [Try.params4] at hA hval
  obtain ⟨v0, vs0, d0, ds0, p0, q0, hargs, rfl, rfl, h0, r0⟩ := trodAll_cons hA
  obtain ⟨v1, vs1, d1, ds1, p1, q1, rfl, rfl, rfl, h1, r1⟩ := trodAll_cons r0
  obtain ⟨v2, vs2, d2, ds2, p2, q2, rfl, rfl, rfl, h2, r2⟩ := trodAll_cons r1
  obtain ⟨v3, vs3, d3, ds3, p3, q3, rfl, rfl, rfl, h3, r3⟩ := trodAll_cons r2
  obtain ⟨rfl, rfl, rfl⟩ := trodAll_nil r3
  obtain rfl : args = #[v0, v1, v2, v3] := by cases args; simp_all
  obtain ⟨rfl, rfl⟩ := trodVars_none hV
  obtain ⟨A_l, l, c_l, rfl, hlc_l, hmc_l, rd_l, ok_l⟩ := open_rows (α := (ByteArray×Int×Int)) (n := 6) Try.underlying22 (by kernel_rfl) (by kernel_rfl) (hval 0 22 v0 rfl rfl) h0 (fun x hx => hlt x (by simp [hx]))
  have hm_l : l.length ≤ 9223372036854775807 := by have := Nat.le_trans hlc_l hmc_l; unfold maxLen at this; omega
  have hz_l : ∀ x ∈ l, x.1.size ≤ 9223372036854775807 := fun x hx => by have := (ok_l x hx).1; unfold maxLen at this; omega
  obtain ⟨i, rfl, rfl, rfl, wf_i⟩ := open_int Try.underlying3 (hval 1 3 v1 rfl rfl) h1
  obtain ⟨n, rfl, rfl, rfl, wf_n⟩ := open_int Try.underlying3 (hval 2 3 v2 rfl rfl) h2
  obtain ⟨s, rfl, rfl, rfl, wf_s⟩ := Go.ChangeMaps.open_string Try.underlying9 (hval 3 9 v3 rfl rfl) h3
  refine (walk W A_l l c_l hm_l rd_l hz_l i wf_i n wf_n s wf_s).mono fun e W' ⟨he, hg⟩ => ?_
  subst he
  exact ⟨_, rfl, post_law (by kernel_rfl) (by rw [Try.params4]; exact plainTypes (by kernel_rfl)) rfl Try.underlying4 rfl ⟨rfl, rfl, rfl⟩ hW' hg⟩

theorem over : Rows.fnExactSplitSectionRow.holds Try.pinned (OpenSpec.ofChange Rows.fnExactSplitSectionSpec) :=
  OpenClaim.holds_of_wide 4 Try.f4 rfl rfl rfl rfl rfl rfl rfl ⟨rfl, rfl, rfl, rfl, rfl⟩ rfl rfl rfl rfl rfl (by kernel_rfl) Try.func4 (by kernel_rfl)
    (of_decide_eq_true (by kernel_rfl)) (by unfold Func.isWrapper; first | (rw [if_pos (by decide +kernel)]; kernel_rfl) | (rw [if_neg (by decide +kernel)]; exact ⟨rfl, rfl⟩))
    (fun os started H enc _ => lifted os started H enc)

/-- The statement. -/
theorem proved : Rows.FnExactSplitSectionSaid :=
  over
#print axioms proved
end Go.Proofs.Ytopaekijhkfhpaa.lawFnExactSplitSection
