/-
  The law FnExactEditsText answers true at every input, and its arguments read afterwards as they read before.
-/
import Derived.Test.YtoofpajeogllhaaDoorTie
import Derived.Test.YtoofpajeogllhaaDoorCards
import Derived.ProofKit
import Derived.LaidMore
import Derived.Lay
import Derived.SevenTiedAt
import Derived.Stop.Joined
import Derived.Test.YtoofpajeogllhaaDoorTextF
import Derived.Test.YtoofpajeogllhaaDoorTextG
import Derived.Test.YtoofpajeogllhaaDoorLaw
import Derived.Test.YtoofpajeogllhaaDoorTyEdit
import Derived.Test.YtoofpajeogllhaaDoorTell
namespace Go.Proofs.YtoofpajeogllhaaDoor.lawFnExactEditsText
open Go.ChangeShapes Go.WideShapes Go.ChangeAt Go.RowKit
set_option linter.unusedVariables false

theorem own : ownKnob Tryd.prog.godebug = none := by kernel_rfl

-- params: rows:l:(Int×Int×Int×Int×Int×Int)
-- import: TextF
-- import: TextG
-- import: Law
-- import: TyEdit
-- import: Tell
set_option maxHeartbeats 4000000 in
set_option maxRecDepth 100000 in
theorem walk (w : World) (A_l : Option Addr) (l : List (Int × Int × Int × Int × Int × Int)) (c_l : Nat) (hm_l : l.length ≤ 9223372036854775807) (rd_l : Rd w A_l l) (hTab : TabP w) :
    Calls Tryd.prog 3 #[.slice A_l l.length c_l] w fun e w' => e = .returned (.bool true) ∧ Gw w w' := by
  by_cases hs_l : l.length ≤ 1048576
  case neg =>
    go_enter Tryd.func3, Tryd.ntmps3
    go_wp2_with (first | (go_at_call 4; refine (l_szEditS _ _ _ _ _ (by omega) (by omega)).mono ?_; first | (rw [if_neg (by omega)]; rintro e w' ⟨rfl, rfl⟩) | (rw [if_pos (by omega)]; rintro e w' ⟨rfl, rfl⟩)))
    go_ret
    exact ⟨rfl, by (repeat (first | with_reducible exact Gw.refl _ | with_reducible assumption | ((with_reducible refine Gw.set ?_ ?_ _); rotate_left; (focus (first | (simp; done) | (simp; omega) | omega))) | with_reducible refine Gw.alloc ?_ _ | with_reducible refine Gw.drew ?_ | with_reducible refine Gw.drewN ?_ _ | (refine Gw.trans ?_ (by with_reducible assumption))))⟩
  have hl_l : l.length ≤ 1048576 := by omega
  go_enter Tryd.func3, Tryd.ntmps3
  go_wp2_with fail
  refine (l_szEditS _ _ _ _ _ (by omega) (by omega)).mono ?_
  rw [if_neg (by omega)]; rintro _ _ ⟨rfl, rfl⟩
  go_wp2_with fail
  refine (l_toEditS _ _ _ _ hl_l (rd_l.gw (Gw.refl w))).mono ?_
  rintro _ w1 ⟨g_t1, rfl, hg_t1, o_t1, hb1⟩
  have hz1 := hb1.size
  (try simp at hz1)
  have G1 : Gw w w1 := Gw.trans ((Gw.refl w)) hb1
  have lo_t1 := lt_of_own o_t1
  go_wp2_with fail
  refine (s_EditsText _ _ _ _ hl_l (own_rd o_t1) (Nat.le_refl _) (hTab.gw (by (repeat (first | with_reducible exact Gw.refl _ | with_reducible assumption | ((with_reducible refine Gw.set ?_ ?_ _); rotate_left; (focus (first | (simp; done) | (simp; omega) | omega))) | with_reducible refine Gw.alloc ?_ _ | with_reducible refine Gw.drew ?_ | with_reducible refine Gw.drewN ?_ _ | (refine Gw.trans ?_ (by with_reducible assumption))))))).mono ?_
  rintro _ w2 ⟨rfl, hb2⟩
  have hz2 := hb2.size
  (try simp at hz2)
  have G2 : Gw w w2 := Gw.trans (G1) hb2
  have o_t12 := own_gw o_t1 hb2
  go_wp2_with fail
  refine (l_toEditS _ _ _ _ hl_l (rd_l.gw G2)).mono ?_
  rintro _ w3 ⟨g_x0, rfl, hg_x0, o_x0, hb3⟩
  have hz3 := hb3.size
  (try simp at hz3)
  have G3 : Gw w w3 := Gw.trans (G2) hb3
  have o_t13 := own_gw o_t12 hb3
  have lo_x0 := lt_of_own o_x0
  go_wp2_with fail
  refine (i_EditsText _ _ _ _ hl_l (own_rd o_x0) (Nat.le_refl _) (hTab.gw (by (repeat (first | with_reducible exact Gw.refl _ | with_reducible assumption | ((with_reducible refine Gw.set ?_ ?_ _); rotate_left; (focus (first | (simp; done) | (simp; omega) | omega))) | with_reducible refine Gw.alloc ?_ _ | with_reducible refine Gw.drew ?_ | with_reducible refine Gw.drewN ?_ _ | (refine Gw.trans ?_ (by with_reducible assumption))))))).mono ?_
  rintro _ w4 ⟨rfl, hb4⟩
  have hz4 := hb4.size
  (try simp at hz4)
  have G4 : Gw w w4 := Gw.trans (G3) hb4
  have o_t14 := own_gw o_t13 hb4
  have o_x04 := own_gw o_x0 hb4
  go_wp2_with fail
  refine (l_toEditS _ _ _ _ hl_l (rd_l.gw G4)).mono ?_
  rintro _ w5 ⟨g_t2, rfl, hg_t2, o_t2, hb5⟩
  have hz5 := hb5.size
  (try simp at hz5)
  have G5 : Gw w w5 := Gw.trans (G4) hb5
  have o_t15 := own_gw o_t14 hb5
  have o_x05 := own_gw o_x04 hb5
  have lo_t2 := lt_of_own o_t2
  go_wp2_with fail
  refine (l_eqEditS _ _ _ _ _ _ hl_l (own_rd o_x05) (own_rd o_t2)).mono ?_
  rintro _ w6 ⟨rfl, hb6⟩
  have hz6 := hb6.size
  (try simp at hz6)
  have G6 : Gw w w6 := Gw.trans (G5) hb6
  have o_t16 := own_gw o_t15 hb6
  have o_x06 := own_gw o_x05 hb6
  have o_t26 := own_gw o_t2 hb6
  go_wp2_with fail
  go_ret
  exact ⟨rfl, G6⟩


theorem tabP {W : World} (h : laidMetH Tryd.prog Rows.fnExactEditsTextRow.laid W) : TabP W := by
  rw [MakeChecks.laidMetH_plain _ _ _ (by kernel_rfl)] at h
  obtain ⟨ps, ⟨g0, t0, cs0, f0, p0, q0, hg0, ht0, hv0, hd0, ⟨g1, t1, cs1, f1, p1, q1, hg1, ht1, hv1, hd1, ⟨g2, t2, cs2, f2, p2, q2, hg2, ht2, hv2, hd2, _, _⟩, _⟩, _⟩, _⟩ := h
  obtain rfl := Option.some.inj ((show Tryd.prog.globalNamed "internal/strconv.uint64pow10" = some 0 by kernel_rfl).symm.trans hg2)
  obtain rfl := Option.some.inj ((show (Tryd.prog.globals[0]?).map (·.type) = some 71 by kernel_rfl).symm.trans ht2)
  have hd : DataW.trod _ Tryd.prog W 0 _ false f2 71 cs2.toList = some (Lib.tabData .u64 Lib.pow10Tab, p2) := hd2
  have he := Lib.cells_of_tab Tryd.underlying71 Tryd.underlying64 (by kernel_rfl) (by kernel_rfl) hd
  unfold TabP Lib.TabIs
  rw [← he]
  exact hv2


set_option maxRecDepth 100000 in
theorem lifted (os : Os) (started : os.Started) (H : Type) (enc : TypeId × Value → H) :
    ReturnsInHanded {} Tryd.checked os 3 .any (fun w args => (Rows.fnExactEditsTextSpec.pre enc Tryd.prog Tryd.f3 Rows.fnExactEditsTextRow.domain false w args ∧ laidMetH Tryd.prog Rows.fnExactEditsTextRow.laid w) ∧ sizedMet enc Tryd.prog Tryd.f3 (OpenSpec.ofChange Rows.fnExactEditsTextSpec) false w args)
      (Rows.fnExactEditsTextSpec.post enc Tryd.prog Tryd.f3 false true false false) := by
  refine returnsInHanded_of_change_and (C := Tryd.checked) (X := fun w _ => laidMetH Tryd.prog Rows.fnExactEditsTextRow.laid w) (fun _ _ _ hh h => h.of_heap hh) own started (by kernel_rfl) Tryd.func3
    (ChangeSpec.witness_shaped (enc := enc) (C := Tryd.checked) (os := os) (X := fun w _ => laidMetH Tryd.prog Rows.fnExactEditsTextRow.laid w) false (World.laidAll Tryd.prog os Rows.fnExactEditsTextRow.laid) #[.slice none 0 0] 8 (World.laidAll_os _ _ _)
      (World.shaped_of_ZipB (by kernel_rfl) (by kernel_rfl)) (by kernel_rfl) (by kernel_rfl) (by kernel_rfl)
      (by rw [MakeChecks.laidMetH_plain _ _ _ (by kernel_rfl)]; exact laidMet_laidAll _ (by kernel_rfl) (by kernel_rfl))) ?_
  intro W base args ds gs before hval0 hW hcnd _ hL _
  have hval : ∀ (j : Nat) t v, Tryd.f3.params[j]? = some t → args[j]? = some v → Value.okWide Tryd.prog W .any base t v := hval0
  have hW' := hW
  have hlt0 : ∀ p ∈ before, p.block < W.heap.size := fun p hp => hW.lt p hp
  obtain ⟨p, q, hA0, hV, rfl, hfz, hnd⟩ := hW
  have hlt : ∀ x ∈ p, x.block < W.heap.size := fun x hx => hlt0 x (List.mem_append_left _ hx)
  have hA : DataW.TrodAll enc Tryd.prog W 0 (fun _ => true) true Tryd.f3.params.toList args.toList ds p := hA0
  rw [Tryd.params3] at hA hval
  obtain ⟨v0, vs0, d0, ds0, p0, q0, hargs, rfl, rfl, h0, r0⟩ := trodAll_cons hA
  obtain ⟨rfl, rfl, rfl⟩ := trodAll_nil r0
  obtain rfl : args = #[v0] := by cases args; simp_all
  obtain ⟨rfl, rfl⟩ := trodVars_none hV
  obtain ⟨A_l, l, c_l, rfl, hlc_l, hmc_l, rd_l, ok_l⟩ := open_rows (α := (Int×Int×Int×Int×Int×Int)) (n := 6) Tryd.underlying22 (by kernel_rfl) (by kernel_rfl) (hval 0 22 v0 rfl rfl) h0 (fun x hx => hlt x (by simp [hx]))
  have hm_l : l.length ≤ 9223372036854775807 := by have := Nat.le_trans hlc_l hmc_l; unfold maxLen at this; omega
  refine (walk W A_l l c_l hm_l rd_l (tabP hL)).mono fun e W' ⟨he, hg⟩ => ?_
  subst he
  exact ⟨_, rfl, post_law (by kernel_rfl) (by rw [Tryd.params3]; exact plainTypes (by kernel_rfl)) rfl Tryd.underlying4 rfl ⟨rfl, rfl, rfl⟩ hW' hg⟩

theorem over : Rows.fnExactEditsTextRow.holds Tryd.pinned (OpenSpec.ofChange Rows.fnExactEditsTextSpec) :=
  OpenClaim.holds_of_wide 3 Tryd.f3 rfl rfl rfl rfl rfl rfl rfl ⟨rfl, rfl, rfl, rfl, rfl⟩ rfl rfl rfl rfl rfl (by kernel_rfl) Tryd.func3 (by kernel_rfl)
    (of_decide_eq_true (by kernel_rfl)) (by unfold Func.isWrapper; first | (rw [if_pos (by decide +kernel)]; kernel_rfl) | (rw [if_neg (by decide +kernel)]; exact ⟨rfl, rfl⟩))
    (fun os started H enc _ => lifted os started H enc)

/-- The statement. -/
theorem proved : Rows.FnExactEditsTextCardSaid :=
  Claim7.holds_tied_plain_at .later [] [.data, .data, .data] true (true, "09831f715f46eef9a5a0876de1bcbeaeb7acebb315cb43a72ff6e992b00f48e1") false
    over (fun _ h => by cases h) (by kernel_rfl) (fun _ h => by cases h) fnExactEditsText_row_tie rfl ⟨rfl, rfl⟩ (by kernel_rfl) rfl
    (fun f fn hf hfn => by
      obtain rfl : f = 3 := Option.some.inj ((show Tryd.prog.funcNamed "loop.example/g00939/laws.FnExactEditsText" = some 3 by kernel_rfl).symm.trans hf) |>.symm
      obtain rfl : fn = Tryd.f3 := (Option.some.inj (Tryd.func3.symm.trans hfn)).symm
      exact ⟨by kernel_rfl, fun j t ht => by
        rw [Tryd.params3] at ht
        have hm : t ∈ [22] := by simpa using Array.mem_of_getElem? ht
        have hall : ([22].all fun u => !Tryd.prog.wantsStandIn u) = true := by kernel_rfl
        exact (show Tryd.prog.wantsStandIn t = false by simpa using List.all_eq_true.1 hall t hm)⟩)
    (by kernel_rfl)
#print axioms proved
end Go.Proofs.YtoofpajeogllhaaDoor.lawFnExactEditsText
