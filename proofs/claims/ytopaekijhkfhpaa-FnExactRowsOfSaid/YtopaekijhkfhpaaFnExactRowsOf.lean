/-
  The law FnExactRowsOf answers true at every input, and its arguments read afterwards as they read before.
-/
import Derived.Test.YtopaekijhkfhpaaRows
import Derived.Test.YtopaekijhkfhpaaSec
import Derived.Test.YtopaekijhkfhpaaSecA
import Derived.Test.YtopaekijhkfhpaaSecB
import Derived.Test.YtopaekijhkfhpaaSecC
import Derived.Test.YtopaekijhkfhpaaSecD
import Derived.Test.YtopaekijhkfhpaaLaw
import Derived.Test.YtopaekijhkfhpaaTySection
import Derived.Test.YtopaekijhkfhpaaTell
import Derived.Test.YtopaekijhkfhpaaNum
import Derived.Test.YtopaekijhkfhpaaTyInt
import Derived.Test.YtopaekijhkfhpaaAppend
import Derived.Test.YtopaekijhkfhpaaStep
import Derived.Test.YtopaekijhkfhpaaDel
import Derived.Test.YtopaekijhkfhpaaGrid
import Derived.Test.YtopaekijhkfhpaaGridB
import Derived.Test.YtopaekijhkfhpaaGridP
import Derived.Test.YtopaekijhkfhpaaGridC
import Derived.Test.YtopaekijhkfhpaaGridD
import Derived.Test.YtopaekijhkfhpaaGridE
namespace Go.Proofs.Ytopaekijhkfhpaa.lawFnExactRowsOf
open Go.ChangeShapes Go.WideShapes Go.ChangeAt Go.RowKit
set_option linter.unusedVariables false

theorem own : ownKnob Try.prog.godebug = none := by kernel_rfl

-- params: rows:l:(ByteArray×Int×Int) int:wd
-- import: Sec
-- import: SecA
-- import: SecB
-- import: SecC
-- import: SecD
-- import: Law
-- import: TySection
-- import: Tell
-- import: Num
-- import: TyInt
-- import: Append
-- import: Step
-- import: Del
-- import: Grid
-- import: GridB
-- import: GridP
-- import: GridC
-- import: GridD
-- import: GridE
set_option maxHeartbeats 4000000 in
set_option maxRecDepth 100000 in
theorem walk (w : World) (A_l : Option Addr) (l : List (ByteArray × Int × Int)) (c_l : Nat) (hm_l : l.length ≤ 9223372036854775807) (rd_l : Rd w A_l l) (hz_l : ∀ x ∈ l, x.1.size ≤ 9223372036854775807) (wd : Int) (wf_wd : (Lit.int .i64 wd).wf = true) :
    Calls Try.prog 3 #[.slice A_l l.length c_l, .int .i64 wd] w fun e w' => e = .returned (.bool true) ∧ Gw w w' := by
  by_cases hs_l : l.length + nameSum l ≤ 1048576
  case neg =>
    go_enter Try.func3, Try.ntmps3
    go_wp2_with fail
    refine (l_szSectionS _ _ _ _ _ hm_l hz_l (by omega) (rd_l.gw (by (repeat (first | with_reducible exact Gw.refl _ | with_reducible assumption | ((with_reducible refine Gw.set ?_ ?_ _); rotate_left; (focus (first | (simp; done) | (simp; omega) | omega))) | with_reducible refine Gw.alloc ?_ _ | with_reducible refine Gw.drew ?_ | with_reducible refine Gw.drewN ?_ _ | (refine Gw.trans ?_ (by with_reducible assumption))))))).mono ?_
    rw [szRes_no (by omega)]; rintro _ w' ⟨rfl, hb⟩
    go_wp2_with fail
    go_ret
    exact ⟨rfl, by (repeat (first | with_reducible exact Gw.refl _ | with_reducible assumption | ((with_reducible refine Gw.set ?_ ?_ _); rotate_left; (focus (first | (simp; done) | (simp; omega) | omega))) | with_reducible refine Gw.alloc ?_ _ | with_reducible refine Gw.drew ?_ | with_reducible refine Gw.drewN ?_ _ | (refine Gw.trans ?_ (by with_reducible assumption))))⟩
  have hl_l : l.length ≤ 1048576 := by omega
  have hlr1 := rowsF_len1 l wd
  have hlr2 := Lib.hid (rowsF_len2 l wd)
  have hsum := rowsF_sum l wd
  obtain ⟨ns, hns⟩ : ∃ ns, ((rowsF l wd).1.map flat).map List.length = ns := ⟨_, rfl⟩
  rw [hns] at hsum
  have Hns := Lib.hid hns
  clear hns
  go_enter Try.func3, Try.ntmps3
  go_wp2_with fail
  refine (l_szSectionS _ _ _ _ _ hm_l hz_l (by omega) (rd_l.gw (Gw.refl w))).mono ?_
  rintro _ w1 ⟨he_sz, G1⟩
  rw [szRes_yes (by omega)] at he_sz; subst he_sz
  go_wp2_with fail
  refine (l_toSectionS _ _ _ _ hl_l (rd_l.gw G1)).mono ?_
  rintro _ w2 ⟨g_t1, rfl, hg_t1, o_t1, hb2⟩
  have G2 : Gw w w2 := Gw.trans (G1) hb2
  go_wp2_with fail
  refine (s_RowsOf _ _ _ _ _ hl_l hz_l (own_rd o_t1) (Nat.le_refl _)).mono ?_
  rintro _ w3 ⟨A_w0, c_w0, sv_w0, rfl, o_w0, hb3⟩
  have G3 : Gw w w3 := Gw.trans (G2) hb3
  have l_w0 := Lib.hid o_w0.len'
  rw [l_w0.out]
  go_wp2_with fail
  refine (l_toSectionS _ _ _ _ hl_l (rd_l.gw G3)).mono ?_
  rintro _ w4 ⟨g_x0, rfl, hg_x0, o_x0, hb4⟩
  have G4 : Gw w w4 := Gw.trans (G3) hb4
  have K4 : Gw w3 w4 := hb4
  have lo_x0 := lt_of_own o_x0
  go_wp2_with fail
  refine (i_RowsOf _ _ _ _ _ hl_l hz_l (own_rd o_x0) (Nat.le_refl _)).mono ?_
  rintro _ w5 ⟨A_g0, c_g0, sv_g0, rfl, o_g0, hb5⟩
  have l_g0 := Lib.hid o_g0.len'
  rw [l_g0.out]
  have G5 : Gw w w5 := Gw.trans (G4) hb5
  have K5 : Gw w3 w5 := Gw.trans (K4) hb5
  have o_x05 := own_gw o_x0 hb5
  go_wp2_with fail
  refine (l_eqIntSS _ _ _ _ _ _ _ _ hlr1 hlr2.out o_g0.rd (o_w0.gw K5).rd).mono ?_
  rintro _ w6 ⟨rfl, hb6⟩
  have G6 : Gw w w6 := Gw.trans (G5) hb6
  have K6 : Gw w3 w6 := Gw.trans (K5) hb6
  have o_x06 := own_gw o_x05 hb6
  have o_g06 := o_g0.gw hb6
  go_wp2_with fail
  refine (l_toSectionS _ _ _ _ hl_l (rd_l.gw G6)).mono ?_
  rintro _ w7 ⟨g_t2, rfl, hg_t2, o_t2, hb7⟩
  have G7 : Gw w w7 := Gw.trans (G6) hb7
  have K7 : Gw w3 w7 := Gw.trans (K6) hb7
  have o_x07 := own_gw o_x06 hb7
  have o_g07 := o_g06.gw hb7
  go_wp2_with fail
  refine (l_eqSectionS _ _ _ _ _ _ hl_l (own_rd o_x07) (own_rd o_t2)).mono ?_
  rintro _ w8 ⟨rfl, hb8⟩
  have G8 : Gw w w8 := Gw.trans (G7) hb8
  have K8 : Gw w3 w8 := Gw.trans (K7) hb8
  have o_x08 := own_gw o_x07 hb8
  have o_g08 := o_g07.gw hb8
  go_wp2_with fail
  refine (l_markSectionS _ _ _ _ _ _ _ hl_l (by omega) o_x08).mono ?_
  rintro _ w9 ⟨rfl, m_x0, hg9⟩
  have G9 := Gw.grown_ G8 hg9 lo_x0 G3.size
  have K9 := Gw.grown_ K8 hg9 lo_x0 (Nat.le_refl _)
  have o_g09 := o_g08.kept hg9 (fun g hg => .inl (lo_x0 g hg).2)
  go_wp2_with fail
  refine (l_eqIntSS _ _ _ _ _ _ _ _ hlr1 hlr2.out o_g09.rd (o_w0.gw K9).rd).mono ?_
  rintro _ w10 ⟨rfl, hb10⟩
  have G10 : Gw w w10 := Gw.trans (G9) hb10
  have K10 : Gw w3 w10 := Gw.trans (K9) hb10
  have o_g010 := o_g09.gw hb10
  have T1 : sv_g0.length ≤ 1048576 := by rw [l_g0.out]; exact hlr1
  have hbs : w4.heap.size ≤ w10.heap.size := Nat.le_trans hb5.size (Nat.le_trans hb6.size (Nat.le_trans hb7.size (Nat.le_trans hb8.size (Nat.le_trans hg9.size hb10.size))))
  go_wp2_with fail
  have T2 := l_markIntSS A_g0 c_g0 _ sv_g0 _ ns 1 w10 T1 Hns.out hsum (by omega) o_g010 hbs
  rw [l_g0.out] at T2
  refine T2.mono ?_
  clear T2
  rintro _ w11 ⟨rfl, m_g0, hbl⟩
  have G11 := Gw.below_ G10 hbl G4.size
  have K11 := Gw.below_ K10 hbl K4.size
  go_wp2_with fail
  have T3 := l_heldIntSS A_g0 c_g0 _ sv_g0 ns 1 w11 T1 hsum (by omega) m_g0
  rw [l_g0.out] at T3
  refine T3.mono ?_
  clear T3
  rintro _ _ ⟨rfl, rfl⟩
  go_wp2_with fail
  refine (l_toSectionS _ _ _ _ hl_l (rd_l.gw G11)).mono ?_
  rintro _ w12 ⟨g_t3, rfl, hg_t3, o_t3, hb12⟩
  have G12 : Gw w w12 := Gw.trans (G11) hb12
  have K12 : Gw w3 w12 := Gw.trans (K11) hb12
  have m_g012 := m_g0.gw hb12
  go_wp2_with fail
  refine (i_RowsOf _ _ _ _ _ hl_l hz_l (own_rd o_t3) (Nat.le_refl _)).mono ?_
  rintro _ w13 ⟨A_h0, c_h0, sv_h0, rfl, o_h0, hb13⟩
  have l_h0 := Lib.hid o_h0.len'
  rw [l_h0.out]
  have G13 : Gw w w13 := Gw.trans (G12) hb13
  have K13 : Gw w3 w13 := Gw.trans (K12) hb13
  have m_g013 := m_g012.gw hb13
  go_wp2_with fail
  refine (l_eqIntSS _ _ _ _ _ _ _ _ hlr1 hlr2.out o_h0.rd (o_w0.gw K13).rd).mono ?_
  rintro _ w14 ⟨rfl, hb14⟩
  have G14 : Gw w w14 := Gw.trans (G13) hb14
  have m_g014 := m_g013.gw hb14
  go_wp2_with fail
  have T3 := l_heldIntSS A_g0 c_g0 _ sv_g0 ns 1 w14 T1 hsum (by omega) m_g014
  rw [l_g0.out] at T3
  refine T3.mono ?_
  clear T3
  rintro _ _ ⟨rfl, rfl⟩
  go_wp2_with fail
  go_ret
  exact ⟨rfl, G14⟩


set_option maxRecDepth 100000 in
theorem lifted (os : Os) (started : os.Started) (H : Type) (enc : TypeId × Value → H) :
    ReturnsInHanded {} Try.checked os 3 .any (Rows.fnExactRowsOfSpec.pre6 enc Try.prog Try.f3 Rows.fnExactRowsOfRow.domain false) (Rows.fnExactRowsOfSpec.post enc Try.prog Try.f3 false true false false) := by
  refine returnsInHanded_of_change (C := Try.checked) own started (by kernel_rfl) Try.func3
    (ChangeSpec.witness6 (enc := enc) (C := Try.checked) false ⟨#[], #[.slice none 0 0, .int .i64 0], []⟩ 8 (by kernel_rfl) (by kernel_rfl) (by kernel_rfl) (by kernel_rfl)) ?_
  intro W base args ds gs before hval0 hW hcnd _
  have hval : ∀ (j : Nat) t v, Try.f3.params[j]? = some t → args[j]? = some v → Value.okWide Try.prog W .any base t v := hval0
  have hW' := hW
  have hlt0 : ∀ p ∈ before, p.block < W.heap.size := fun p hp => hW.lt p hp
  obtain ⟨p, q, hA0, hV, rfl, hfz, hnd⟩ := hW
  have hlt : ∀ x ∈ p, x.block < W.heap.size := fun x hx => hlt0 x (List.mem_append_left _ hx)
  have hA : DataW.TrodAll enc Try.prog W 0 (fun _ => true) true Try.f3.params.toList args.toList ds p := hA0
  rw [Try.params3] at hA hval
  obtain ⟨v0, vs0, d0, ds0, p0, q0, hargs, rfl, rfl, h0, r0⟩ := trodAll_cons hA
  obtain ⟨v1, vs1, d1, ds1, p1, q1, rfl, rfl, rfl, h1, r1⟩ := trodAll_cons r0
  obtain ⟨rfl, rfl, rfl⟩ := trodAll_nil r1
  obtain rfl : args = #[v0, v1] := by cases args; simp_all
  obtain ⟨rfl, rfl⟩ := trodVars_none hV
  obtain ⟨A_l, l, c_l, rfl, hlc_l, hmc_l, rd_l, ok_l⟩ := open_rows (α := (ByteArray×Int×Int)) (n := 6) Try.underlying22 (by kernel_rfl) (by kernel_rfl) (hval 0 22 v0 rfl rfl) h0 (fun x hx => hlt x (by simp [hx]))
  have hm_l : l.length ≤ 9223372036854775807 := by have := Nat.le_trans hlc_l hmc_l; unfold maxLen at this; omega
  have hz_l : ∀ x ∈ l, x.1.size ≤ 9223372036854775807 := fun x hx => by have := (ok_l x hx).1; unfold maxLen at this; omega
  obtain ⟨wd, rfl, rfl, rfl, wf_wd⟩ := open_int Try.underlying3 (hval 1 3 v1 rfl rfl) h1
  refine (walk W A_l l c_l hm_l rd_l hz_l wd wf_wd).mono fun e W' ⟨he, hg⟩ => ?_
  subst he
  exact ⟨_, rfl, post_law (by kernel_rfl) (by rw [Try.params3]; exact plainTypes (by kernel_rfl)) rfl Try.underlying4 rfl ⟨rfl, rfl, rfl⟩ hW' hg⟩

theorem over : Rows.fnExactRowsOfRow.holds Try.pinned (OpenSpec.ofChange Rows.fnExactRowsOfSpec) :=
  OpenClaim.holds_of_wide 3 Try.f3 rfl rfl rfl rfl rfl rfl rfl ⟨rfl, rfl, rfl, rfl, rfl⟩ rfl rfl rfl rfl rfl (by kernel_rfl) Try.func3 (by kernel_rfl)
    (of_decide_eq_true (by kernel_rfl)) (by unfold Func.isWrapper; first | (rw [if_pos (by decide +kernel)]; kernel_rfl) | (rw [if_neg (by decide +kernel)]; exact ⟨rfl, rfl⟩))
    (fun os started H enc _ => lifted os started H enc)

/-- The statement. -/
theorem proved : Rows.FnExactRowsOfSaid :=
  over
#print axioms proved
end Go.Proofs.Ytopaekijhkfhpaa.lawFnExactRowsOf
