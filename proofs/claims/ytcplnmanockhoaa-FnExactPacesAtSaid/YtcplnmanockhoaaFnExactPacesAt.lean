/-
  The law FnExactPacesAt answers true at every input, and its arguments read afterwards as they read before.
-/
import Derived.Test.YtcplnmanockhoaaRows
import Derived.Test.YtcplnmanockhoaaPaces
import Derived.Test.YtcplnmanockhoaaLaw
namespace Go.Proofs.Ytcplnmanockhoaa.lawFnExactPacesAt
open Go.ChangeShapes Go.WideShapes Go.ChangeAt Go.RowKit
set_option linter.unusedVariables false

theorem own : ownKnob Try.prog.godebug = none := by kernel_rfl

-- params: int:limit int:step
-- import: Paces
-- import: Law
set_option maxHeartbeats 4000000 in
set_option maxRecDepth 100000 in
theorem walk (w : World) (limit : Int) (wf_limit : (Lit.int .i64 limit).wf = true) (step : Int) (wf_step : (Lit.int .i64 step).wf = true) :
    Calls Try.prog 10 #[.int .i64 limit, .int .i64 step] w fun e w' => e = .returned (.bool true) ∧ Gw w w' := by
  go_enter Try.func10, Try.ntmps10
  have hlr : (pacesAt limit step).1.length ≤ 1048576 := pacesAt_len limit step
  go_wp2_with fail
  refine (s_PacesAt _ _ _).mono ?_
  rintro _ w1 ⟨A_w0, c_w0, rfl, o_w0, hb1⟩
  have hz1 := hb1.size
  (try simp at hz1)
  have G1 : Gw w w1 := Gw.trans (Gw.refl w) hb1
  have lo_w0 := lt_of_own o_w0
  go_wp2_with fail
  refine (i_PacesAt _ _ _).mono ?_
  rintro _ w2 ⟨A_g0, c_g0, rfl, o_g0, hb2⟩
  have hz2 := hb2.size
  (try simp at hz2)
  have G2 : Gw w w2 := Gw.trans (G1) hb2
  have o_w02 := own_gw o_w0 hb2
  have lo_g0 := lt_of_own o_g0
  go_wp2_with fail
  refine (l_eqPaceS _ _ _ _ _ _ hlr (own_rd o_g0) (own_rd o_w02)).mono ?_
  rintro _ w3 ⟨rfl, hb3⟩
  have hz3 := hb3.size
  (try simp at hz3)
  have G3 : Gw w w3 := Gw.trans (G2) hb3
  have o_w03 := own_gw o_w02 hb3
  have o_g03 := own_gw o_g0 hb3
  go_wp2_with fail
  refine (l_markPaceS _ _ _ _ _ _ _ hlr (by omega) o_g03).mono ?_
  rintro _ w4 ⟨rfl, m_g0, hg4⟩
  have hz4 := hg4.size
  have G4 : Gw w w4 := Gw.grown G3 hg4 (fun k hk => by have := lo_g0 k hk; omega)
  have o_w04 := own_mark o_w03 hg4 lo_w0 lo_g0 (by omega)
  go_wp2_with fail
  refine (l_heldPaceS _ _ _ _ _ _ hlr (by omega) m_g0).mono ?_
  rintro _ _ ⟨rfl, rfl⟩
  go_wp2_with fail
  refine (i_PacesAt _ _ _).mono ?_
  rintro _ w5 ⟨A_h0, c_h0, rfl, o_h0, hb5⟩
  have hz5 := hb5.size
  (try simp at hz5)
  have G5 : Gw w w5 := Gw.trans (G4) hb5
  have o_w05 := own_gw o_w04 hb5
  have m_g05 := own_gw m_g0 hb5
  have lo_h0 := lt_of_own o_h0
  go_wp2_with fail
  refine (l_eqPaceS _ _ _ _ _ _ hlr (own_rd o_h0) (own_rd o_w05)).mono ?_
  rintro _ w6 ⟨rfl, hb6⟩
  have hz6 := hb6.size
  (try simp at hz6)
  have G6 : Gw w w6 := Gw.trans (G5) hb6
  have o_w06 := own_gw o_w05 hb6
  have m_g06 := own_gw m_g05 hb6
  have o_h06 := own_gw o_h0 hb6
  go_wp2_with fail
  refine (l_heldPaceS _ _ _ _ _ _ hlr (by omega) m_g06).mono ?_
  rintro _ _ ⟨rfl, rfl⟩
  go_wp2_with fail
  go_ret
  exact ⟨rfl, G6⟩


set_option maxRecDepth 100000 in
theorem lifted (os : Os) (started : os.Started) (H : Type) (enc : TypeId × Value → H) :
    ReturnsInHanded {} Try.checked os 10 .any (Rows.fnExactPacesAtSpec.pre6 enc Try.prog Try.f10 Rows.fnExactPacesAtRow.domain false) (Rows.fnExactPacesAtSpec.post enc Try.prog Try.f10 false true false false) := by
  refine returnsInHanded_of_change (C := Try.checked) own started (by kernel_rfl) Try.func10
    (ChangeSpec.witness6 (enc := enc) (C := Try.checked) false ⟨#[], #[.int .i64 0, .int .i64 0], []⟩ 8 (by kernel_rfl) (by kernel_rfl) (by kernel_rfl) (by kernel_rfl)) ?_
  intro W base args ds gs before hval0 hW hcnd _
  have hval : ∀ (j : Nat) t v, Try.f10.params[j]? = some t → args[j]? = some v → Value.okWide Try.prog W .any base t v := hval0
  have hW' := hW
  have hlt0 : ∀ p ∈ before, p.block < W.heap.size := fun p hp => hW.lt p hp
  obtain ⟨p, q, hA0, hV, rfl, hfz, hnd⟩ := hW
  have hlt : ∀ x ∈ p, x.block < W.heap.size := fun x hx => hlt0 x (List.mem_append_left _ hx)
  have hA : DataW.TrodAll enc Try.prog W 0 (fun _ => true) true Try.f10.params.toList args.toList ds p := hA0
  rw [Try.params10] at hA hval
  obtain ⟨v0, vs0, d0, ds0, p0, q0, hargs, rfl, rfl, h0, r0⟩ := trodAll_cons hA
  obtain ⟨v1, vs1, d1, ds1, p1, q1, rfl, rfl, rfl, h1, r1⟩ := trodAll_cons r0
  obtain ⟨rfl, rfl, rfl⟩ := trodAll_nil r1
  obtain rfl : args = #[v0, v1] := by cases args; simp_all
  obtain ⟨rfl, rfl⟩ := trodVars_none hV
  obtain ⟨limit, rfl, rfl, rfl, wf_limit⟩ := open_int Try.underlying3 (hval 0 3 v0 rfl rfl) h0
  obtain ⟨step, rfl, rfl, rfl, wf_step⟩ := open_int Try.underlying3 (hval 1 3 v1 rfl rfl) h1
  refine (walk W limit wf_limit step wf_step).mono fun e W' ⟨he, hg⟩ => ?_
  subst he
  exact ⟨_, rfl, post_law (by kernel_rfl) (by rw [Try.params10]; exact plainTypes (by kernel_rfl)) rfl Try.underlying4 rfl ⟨rfl, rfl, rfl⟩ hW' hg⟩

theorem over : Rows.fnExactPacesAtRow.holds Try.pinned (OpenSpec.ofChange Rows.fnExactPacesAtSpec) :=
  OpenClaim.holds_of_wide 10 Try.f10 rfl rfl rfl rfl rfl rfl rfl ⟨rfl, rfl, rfl, rfl, rfl⟩ rfl rfl rfl rfl rfl (by kernel_rfl) Try.func10 (by kernel_rfl)
    (of_decide_eq_true (by kernel_rfl)) (by unfold Func.isWrapper; first | (rw [if_pos (by decide +kernel)]; kernel_rfl) | (rw [if_neg (by decide +kernel)]; exact ⟨rfl, rfl⟩))
    (fun os started H enc _ => lifted os started H enc)

/-- The statement. -/
theorem proved : Rows.FnExactPacesAtSaid :=
  over
#print axioms proved
end Go.Proofs.Ytcplnmanockhoaa.lawFnExactPacesAt
