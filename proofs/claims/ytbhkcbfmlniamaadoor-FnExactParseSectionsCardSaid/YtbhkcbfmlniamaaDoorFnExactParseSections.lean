/-
  The law FnExactParseSections answers true at every input, and its arguments read afterwards as they read before.
-/
import Derived.Test.YtbhkcbfmlniamaaDoorTie
import Derived.Test.YtbhkcbfmlniamaaDoorCards
import Derived.ProofKit
import Derived.LaidMore
import Derived.Lay
import Derived.SevenTiedAt
import Derived.Stop.Joined
import Derived.Test.YtbhkcbfmlniamaaDoorShape
import Derived.Test.YtbhkcbfmlniamaaDoorParseU
import Derived.Test.YtbhkcbfmlniamaaDoorParseV
import Derived.Test.YtbhkcbfmlniamaaDoorSec
import Derived.Test.YtbhkcbfmlniamaaDoorLaw
import Derived.Test.YtbhkcbfmlniamaaDoorTySection
import Derived.Test.YtbhkcbfmlniamaaDoorTell
import Derived.ChangeMaps5
namespace Go.Proofs.YtbhkcbfmlniamaaDoor.lawFnExactParseSections
open Go.ChangeShapes Go.WideShapes Go.ChangeAt Go.RowKit
set_option linter.unusedVariables false

theorem own : ownKnob Tryd.prog.godebug = none := by kernel_rfl

-- params: str:s
-- import: ParseU
-- import: ParseV
-- import: Sec
-- import: Law
-- import: TySection
-- import: Tell
set_option maxHeartbeats 4000000 in
set_option maxRecDepth 100000 in
theorem walk (w : World) (s : ByteArray) (ws_s : s.size ≤ maxLen) (hM : MaxP w) :
    Calls Tryd.prog 5 #[.string s] w fun e w' => e = .returned (.bool true) ∧ Gw w w' := by
  by_cases hs : s.size ≤ 1048576
  case neg =>
    have hsz : (1048576 : Int) < (s.size : Int) := by omega
    go_enter Tryd.func5, Tryd.ntmps5
    go_wp2_with fail
    go_ret
    exact ⟨rfl, by (repeat (first | with_reducible exact Gw.refl _ | with_reducible assumption | ((with_reducible refine Gw.set ?_ ?_ _); rotate_left; (focus (first | (simp; done) | (simp; omega) | omega))) | with_reducible refine Gw.alloc ?_ _ | with_reducible refine Gw.drew ?_ | with_reducible refine Gw.drewN ?_ _ | (refine Gw.trans ?_ (by with_reducible assumption))))⟩
  go_enter Tryd.func5, Tryd.ntmps5
  have hlr : (psecF s).1.length ≤ 1048576 := psecF_len s
  go_wp2_with fail
  refine (s_ParseSections _ _ hs).mono ?_
  rintro _ w1 ⟨A_w0, c_w0, rfl, o_w0, hb1⟩
  have hz1 := hb1.size
  (try simp at hz1)
  have G1 : Gw w w1 := Gw.trans ((Gw.refl w)) hb1
  have lo_w0 := lt_of_own o_w0
  go_wp2_with fail
  refine (i_ParseSections _ _ hs (hM.gw (by (repeat (first | with_reducible exact Gw.refl _ | with_reducible assumption | ((with_reducible refine Gw.set ?_ ?_ _); rotate_left; (focus (first | (simp; done) | (simp; omega) | omega))) | with_reducible refine Gw.alloc ?_ _ | with_reducible refine Gw.drew ?_ | with_reducible refine Gw.drewN ?_ _ | (refine Gw.trans ?_ (by with_reducible assumption))))))).mono ?_
  rintro _ w2 ⟨A_g0, c_g0, rfl, o_g0, hb2⟩
  have hz2 := hb2.size
  (try simp at hz2)
  have G2 : Gw w w2 := Gw.trans (G1) hb2
  have o_w02 := own_gw o_w0 hb2
  have lo_g0 := lt_of_own o_g0
  go_wp2_with fail
  refine (l_eqSectionS _ _ _ _ _ _ hlr (own_rd o_g0) (own_rd o_w02)).mono ?_
  rintro _ w3 ⟨rfl, hb3⟩
  have hz3 := hb3.size
  (try simp at hz3)
  have G3 : Gw w w3 := Gw.trans (G2) hb3
  have o_w03 := own_gw o_w02 hb3
  have o_g03 := own_gw o_g0 hb3
  go_wp2_with fail
  refine (l_markSectionS _ _ _ _ _ _ _ hlr (by omega) o_g03).mono ?_
  rintro _ w4 ⟨rfl, m_g0, hg4⟩
  have hz4 := hg4.size
  have G4 := Gw.grown G3 hg4 (fun k hk => by have := lo_g0 k hk; first | omega | (simp; omega))
  have o_w04 := own_mark o_w03 hg4 lo_w0 lo_g0 (by omega)
  go_wp2_with fail
  refine (l_heldSectionS _ _ _ _ _ _ hlr (by omega) m_g0).mono ?_
  rintro _ w5 ⟨rfl, hb5⟩
  have hz5 := hb5.size
  (try simp at hz5)
  have G5 : Gw w w5 := Gw.trans (G4) hb5
  have o_w05 := own_gw o_w04 hb5
  have m_g05 := own_gw m_g0 hb5
  go_wp2_with fail
  refine (i_ParseSections _ _ hs (hM.gw (by (repeat (first | with_reducible exact Gw.refl _ | with_reducible assumption | ((with_reducible refine Gw.set ?_ ?_ _); rotate_left; (focus (first | (simp; done) | (simp; omega) | omega))) | with_reducible refine Gw.alloc ?_ _ | with_reducible refine Gw.drew ?_ | with_reducible refine Gw.drewN ?_ _ | (refine Gw.trans ?_ (by with_reducible assumption))))))).mono ?_
  rintro _ w6 ⟨A_h0, c_h0, rfl, o_h0, hb6⟩
  have hz6 := hb6.size
  (try simp at hz6)
  have G6 : Gw w w6 := Gw.trans (G5) hb6
  have o_w06 := own_gw o_w05 hb6
  have m_g06 := own_gw m_g05 hb6
  have lo_h0 := lt_of_own o_h0
  go_wp2_with fail
  refine (l_eqSectionS _ _ _ _ _ _ hlr (own_rd o_h0) (own_rd o_w06)).mono ?_
  rintro _ w7 ⟨rfl, hb7⟩
  have hz7 := hb7.size
  (try simp at hz7)
  have G7 : Gw w w7 := Gw.trans (G6) hb7
  have o_w07 := own_gw o_w06 hb7
  have m_g07 := own_gw m_g06 hb7
  have o_h07 := own_gw o_h0 hb7
  go_wp2_with fail
  refine (l_heldSectionS _ _ _ _ _ _ hlr (by omega) m_g07).mono ?_
  rintro _ w8 ⟨rfl, hb8⟩
  have hz8 := hb8.size
  (try simp at hz8)
  have G8 : Gw w w8 := Gw.trans (G7) hb8
  have o_w08 := own_gw o_w07 hb8
  have m_g08 := own_gw m_g07 hb8
  have o_h08 := own_gw o_h07 hb8
  go_wp2_with fail
  go_ret
  exact ⟨rfl, G8⟩



set_option maxRecDepth 100000 in
theorem lifted (os : Os) (started : os.Started) (H : Type) (enc : TypeId × Value → H) :
    ReturnsInHanded {} Tryd.checked os 5 .any (fun w args => (Rows.fnExactParseSectionsSpec.pre enc Tryd.prog Tryd.f5 Rows.fnExactParseSectionsRow.domain false w args ∧ laidMetH Tryd.prog Rows.fnExactParseSectionsRow.laid w) ∧ sizedMet enc Tryd.prog Tryd.f5 (OpenSpec.ofChange Rows.fnExactParseSectionsSpec) false w args)
      (Rows.fnExactParseSectionsSpec.post enc Tryd.prog Tryd.f5 false true false false) := by
  refine handed_shaped (C := Tryd.checked) (X := fun w _ => laidMetH Tryd.prog Rows.fnExactParseSectionsRow.laid w) (fun _ _ _ hh h => h.of_heap hh) own started (by kernel_rfl) Tryd.func5
    (ChangeSpec.witness_shaped (enc := enc) (C := Tryd.checked) (os := os) (X := fun w _ => laidMetH Tryd.prog Rows.fnExactParseSectionsRow.laid w) false (World.laidAll Tryd.prog os Rows.fnExactParseSectionsRow.laid) #[.string ByteArray.empty] 8 (World.laidAll_os _ _ _)
      (World.shaped_of_ZipB (by kernel_rfl) (by kernel_rfl)) (by kernel_rfl) (by kernel_rfl) (by kernel_rfl)
      (by rw [MakeChecks.laidMetH_plain _ _ _ (by kernel_rfl)]; exact laidMet_laidAll _ (by kernel_rfl) (by kernel_rfl))) ?_
  intro W base args ds gs before hval0 hW hcnd hL hsh
  have hval : ∀ (j : Nat) t v, Tryd.f5.params[j]? = some t → args[j]? = some v → Value.okWide Tryd.prog W .any base t v := hval0
  have hW' := hW
  have hlt0 : ∀ p ∈ before, p.block < W.heap.size := fun p hp => hW.lt p hp
  obtain ⟨p, q, hA0, hV, rfl, hfz, hnd⟩ := hW
  have hlt : ∀ x ∈ p, x.block < W.heap.size := fun x hx => hlt0 x (List.mem_append_left _ hx)
  have hA : DataW.TrodAll enc Tryd.prog W 0 (fun _ => true) true Tryd.f5.params.toList args.toList ds p := hA0
  rw [Tryd.params5] at hA hval
  obtain ⟨v0, vs0, d0, ds0, p0, q0, hargs, rfl, rfl, h0, r0⟩ := trodAll_cons hA
  obtain ⟨rfl, rfl, rfl⟩ := trodAll_nil r0
  obtain rfl : args = #[v0] := by cases args; simp_all
  obtain ⟨rfl, rfl⟩ := trodVars_none hV
  obtain ⟨s, rfl, rfl, rfl, wf_s⟩ := Go.ChangeMaps.open_string Tryd.underlying9 (hval 0 9 v0 rfl rfl) h0
  refine (walk W s wf_s (MaxP.of hsh)).mono fun e W' ⟨he, hg⟩ => ?_
  subst he
  exact ⟨_, rfl, post_law (by kernel_rfl) (by rw [Tryd.params5]; exact plainTypes (by kernel_rfl)) rfl Tryd.underlying4 rfl ⟨rfl, rfl, rfl⟩ hW' hg⟩

theorem over : Rows.fnExactParseSectionsRow.holds Tryd.pinned (OpenSpec.ofChange Rows.fnExactParseSectionsSpec) :=
  OpenClaim.holds_of_wide 5 Tryd.f5 rfl rfl rfl rfl rfl rfl rfl ⟨rfl, rfl, rfl, rfl, rfl⟩ rfl rfl rfl rfl rfl (by kernel_rfl) Tryd.func5 (by kernel_rfl)
    (of_decide_eq_true (by kernel_rfl)) (by unfold Func.isWrapper; first | (rw [if_pos (by decide +kernel)]; kernel_rfl) | (rw [if_neg (by decide +kernel)]; exact ⟨rfl, rfl⟩))
    (fun os started H enc _ => lifted os started H enc)

/-- The statement. -/
theorem proved : Rows.FnExactParseSectionsCardSaid :=
  Claim7.holds_tied_plain_at .later [] [.data, .pinned] true (true, "7ff3c8d13125d5653b342965040128eabd9ccd04705181c9ac9e310ff5d484c3") false
    over (fun _ h => by cases h) (by kernel_rfl) (fun _ h => by cases h) fnExactParseSections_row_tie rfl ⟨rfl, rfl⟩ (by kernel_rfl) rfl
    (fun f fn hf hfn => by
      obtain rfl : f = 5 := Option.some.inj ((show Tryd.prog.funcNamed "loop.example/g00939/laws.FnExactParseSections" = some 5 by kernel_rfl).symm.trans hf) |>.symm
      obtain rfl : fn = Tryd.f5 := (Option.some.inj (Tryd.func5.symm.trans hfn)).symm
      exact ⟨by kernel_rfl, fun j t ht => by
        rw [Tryd.params5] at ht
        have hm : t ∈ [9] := by simpa using Array.mem_of_getElem? ht
        have hall : ([9].all fun u => !Tryd.prog.wantsStandIn u) = true := by kernel_rfl
        exact (show Tryd.prog.wantsStandIn t = false by simpa using List.all_eq_true.1 hall t hm)⟩)
    (by kernel_rfl)
#print axioms proved
end Go.Proofs.YtbhkcbfmlniamaaDoor.lawFnExactParseSections
