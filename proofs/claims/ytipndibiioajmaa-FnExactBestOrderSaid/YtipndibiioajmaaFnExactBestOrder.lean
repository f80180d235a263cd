/-
  The law FnExactBestOrder answers true at every input, and its arguments read afterwards as they read before.
-/
import Derived.Test.YtipndibiioajmaaRows
import Derived.Test.YtipndibiioajmaaTryI
import Derived.Test.YtipndibiioajmaaBestI
import Derived.Test.YtipndibiioajmaaLaw
import Derived.Test.YtipndibiioajmaaTyWindow
import Derived.Test.YtipndibiioajmaaTyRehearsal
import Derived.Test.YtipndibiioajmaaTyInt
import Derived.Test.YtipndibiioajmaaTell
namespace Go.Proofs.Ytipndibiioajmaa.lawFnExactBestOrder
open Go.ChangeShapes Go.WideShapes Go.ChangeAt Go.RowKit
set_option linter.unusedVariables false

theorem own : ownKnob Try.prog.godebug = none := by kernel_rfl

-- params: rows:l:(Int×Int×Int) rows:m:(Int×Int)
-- import: TryI
-- import: BestI
-- import: Law
-- import: TyWindow
-- import: TyRehearsal
-- import: TyInt
-- import: Tell
set_option maxHeartbeats 4000000 in
set_option maxRecDepth 100000 in
theorem walk (w : World) (A_l : Option Addr) (l : List (Int × Int × Int)) (c_l : Nat) (hm_l : l.length ≤ 9223372036854775807) (rd_l : Rd w A_l l) (A_m : Option Addr) (m : List (Int × Int)) (c_m : Nat) (hm_m : m.length ≤ 9223372036854775807) (rd_m : Rd w A_m m) :
    Calls Try.prog 3 #[.slice A_l l.length c_l, .slice A_m m.length c_m] w fun e w' => e = .returned (.bool true) ∧ Gw w w' := by
  by_cases hs_l : l.length ≤ 1048576
  case neg =>
    go_enter Try.func3, Try.ntmps3
    go_wp2_with (first | (go_at_call 5; refine (l_szWindowS _ _ _ _ _ (by omega) (by omega)).mono ?_; first | (rw [if_neg (by omega)]; rintro e w' ⟨rfl, rfl⟩) | (rw [if_pos (by omega)]; rintro e w' ⟨rfl, rfl⟩)) | (go_at_call 6; refine (l_szRehearsalS _ _ _ _ _ (by omega) (by omega)).mono ?_; first | (rw [if_neg (by omega)]; rintro e w' ⟨rfl, rfl⟩) | (rw [if_pos (by omega)]; rintro e w' ⟨rfl, rfl⟩)))
    go_ret
    exact ⟨rfl, by (repeat (first | with_reducible exact Gw.refl _ | with_reducible assumption | ((with_reducible refine Gw.set ?_ ?_ _); rotate_left; (focus (first | (simp; done) | (simp; omega) | omega))) | with_reducible refine Gw.alloc ?_ _ | with_reducible refine Gw.drew ?_ | with_reducible refine Gw.drewN ?_ _ | (refine Gw.trans ?_ (by with_reducible assumption))))⟩
  by_cases hs_m : l.length + m.length ≤ 1048576
  case neg =>
    go_enter Try.func3, Try.ntmps3
    go_wp2_with (first | (go_at_call 5; refine (l_szWindowS _ _ _ _ _ (by omega) (by omega)).mono ?_; first | (rw [if_neg (by omega)]; rintro e w' ⟨rfl, rfl⟩) | (rw [if_pos (by omega)]; rintro e w' ⟨rfl, rfl⟩)) | (go_at_call 6; refine (l_szRehearsalS _ _ _ _ _ (by omega) (by omega)).mono ?_; first | (rw [if_neg (by omega)]; rintro e w' ⟨rfl, rfl⟩) | (rw [if_pos (by omega)]; rintro e w' ⟨rfl, rfl⟩)))
    go_ret
    exact ⟨rfl, by (repeat (first | with_reducible exact Gw.refl _ | with_reducible assumption | ((with_reducible refine Gw.set ?_ ?_ _); rotate_left; (focus (first | (simp; done) | (simp; omega) | omega))) | with_reducible refine Gw.alloc ?_ _ | with_reducible refine Gw.drew ?_ | with_reducible refine Gw.drewN ?_ _ | (refine Gw.trans ?_ (by with_reducible assumption))))⟩
  have hl_l : l.length ≤ 1048576 := by omega
  have hl_m : m.length ≤ 1048576 := by omega
  go_enter Try.func3, Try.ntmps3
  have hlr : (bestOF l m).1.length ≤ 1048576 := bestOF_len l m
  go_wp2_with fail
  refine (l_szWindowS _ _ _ _ _ (by omega) (by omega)).mono ?_
  rw [if_neg (by omega)]; rintro _ _ ⟨rfl, rfl⟩
  go_wp2_with fail
  refine (l_szRehearsalS _ _ _ _ _ (by omega) (by omega)).mono ?_
  rw [if_neg (by omega)]; rintro _ _ ⟨rfl, rfl⟩
  go_wp2_with fail
  refine (l_toWindowS _ _ _ _ hl_l (rd_l.gw (Gw.refl w))).mono ?_
  rintro _ w1 ⟨g_t1, rfl, hg_t1, o_t1, hb1⟩
  have hz1 := hb1.size
  (try simp at hz1)
  have G1 : Gw w w1 := Gw.trans ((Gw.refl w)) hb1
  have lo_t1 := lt_of_own o_t1
  go_wp2_with fail
  refine (l_toRehearsalS _ _ _ _ hl_m (rd_m.gw G1)).mono ?_
  rintro _ w2 ⟨g_t2, rfl, hg_t2, o_t2, hb2⟩
  have hz2 := hb2.size
  (try simp at hz2)
  have G2 : Gw w w2 := Gw.trans (G1) hb2
  have o_t12 := own_gw o_t1 hb2
  have lo_t2 := lt_of_own o_t2
  go_wp2_with fail
  refine (s_BestOrder _ _ _ _ _ _ _ hl_l (own_rd o_t12) (Nat.le_refl _) hl_m (own_rd o_t2) (Nat.le_refl _)).mono ?_
  rintro _ w3 ⟨A_w0, c_w0, rfl, o_w0, hb3⟩
  have hz3 := hb3.size
  (try simp at hz3)
  have G3 : Gw w w3 := Gw.trans (G2) hb3
  have o_t13 := own_gw o_t12 hb3
  have o_t23 := own_gw o_t2 hb3
  have lo_w0 := lt_of_own o_w0
  go_wp2_with fail
  refine (l_toWindowS _ _ _ _ hl_l (rd_l.gw G3)).mono ?_
  rintro _ w4 ⟨g_x0, rfl, hg_x0, o_x0, hb4⟩
  have hz4 := hb4.size
  (try simp at hz4)
  have G4 : Gw w w4 := Gw.trans (G3) hb4
  have o_t14 := own_gw o_t13 hb4
  have o_t24 := own_gw o_t23 hb4
  have o_w04 := own_gw o_w0 hb4
  have lo_x0 := lt_of_own o_x0
  go_wp2_with fail
  refine (l_toRehearsalS _ _ _ _ hl_m (rd_m.gw G4)).mono ?_
  rintro _ w5 ⟨g_x1, rfl, hg_x1, o_x1, hb5⟩
  have hz5 := hb5.size
  (try simp at hz5)
  have G5 : Gw w w5 := Gw.trans (G4) hb5
  have o_t15 := own_gw o_t14 hb5
  have o_t25 := own_gw o_t24 hb5
  have o_w05 := own_gw o_w04 hb5
  have o_x05 := own_gw o_x0 hb5
  have lo_x1 := lt_of_own o_x1
  go_wp2_with fail
  refine (i_BestOrder _ _ _ _ _ _ _ hl_l (own_rd o_x05) (Nat.le_refl _) hl_m (own_rd o_x1) (Nat.le_refl _)).mono ?_
  rintro _ w6 ⟨A_g0, c_g0, rfl, o_g0, hb6⟩
  have hz6 := hb6.size
  (try simp at hz6)
  have G6 : Gw w w6 := Gw.trans (G5) hb6
  have o_t16 := own_gw o_t15 hb6
  have o_t26 := own_gw o_t25 hb6
  have o_w06 := own_gw o_w05 hb6
  have o_x06 := own_gw o_x05 hb6
  have o_x16 := own_gw o_x1 hb6
  have lo_g0 := lt_of_own o_g0
  go_wp2_with fail
  refine (l_eqIntS _ _ _ _ _ _ hlr (own_rd o_g0) (own_rd o_w06)).mono ?_
  rintro _ w7 ⟨rfl, hb7⟩
  have hz7 := hb7.size
  (try simp at hz7)
  have G7 : Gw w w7 := Gw.trans (G6) hb7
  have o_t17 := own_gw o_t16 hb7
  have o_t27 := own_gw o_t26 hb7
  have o_w07 := own_gw o_w06 hb7
  have o_x07 := own_gw o_x06 hb7
  have o_x17 := own_gw o_x16 hb7
  have o_g07 := own_gw o_g0 hb7
  go_wp2_with fail
  refine (l_toWindowS _ _ _ _ hl_l (rd_l.gw G7)).mono ?_
  rintro _ w8 ⟨g_t3, rfl, hg_t3, o_t3, hb8⟩
  have hz8 := hb8.size
  (try simp at hz8)
  have G8 : Gw w w8 := Gw.trans (G7) hb8
  have o_t18 := own_gw o_t17 hb8
  have o_t28 := own_gw o_t27 hb8
  have o_w08 := own_gw o_w07 hb8
  have o_x08 := own_gw o_x07 hb8
  have o_x18 := own_gw o_x17 hb8
  have o_g08 := own_gw o_g07 hb8
  have lo_t3 := lt_of_own o_t3
  go_wp2_with fail
  refine (l_eqWindowS _ _ _ _ _ _ hl_l (own_rd o_x08) (own_rd o_t3)).mono ?_
  rintro _ w9 ⟨rfl, hb9⟩
  have hz9 := hb9.size
  (try simp at hz9)
  have G9 : Gw w w9 := Gw.trans (G8) hb9
  have o_t19 := own_gw o_t18 hb9
  have o_t29 := own_gw o_t28 hb9
  have o_w09 := own_gw o_w08 hb9
  have o_x09 := own_gw o_x08 hb9
  have o_x19 := own_gw o_x18 hb9
  have o_g09 := own_gw o_g08 hb9
  have o_t39 := own_gw o_t3 hb9
  go_wp2_with fail
  refine (l_toRehearsalS _ _ _ _ hl_m (rd_m.gw G9)).mono ?_
  rintro _ w10 ⟨g_t4, rfl, hg_t4, o_t4, hb10⟩
  have hz10 := hb10.size
  (try simp at hz10)
  have G10 : Gw w w10 := Gw.trans (G9) hb10
  have o_t110 := own_gw o_t19 hb10
  have o_t210 := own_gw o_t29 hb10
  have o_w010 := own_gw o_w09 hb10
  have o_x010 := own_gw o_x09 hb10
  have o_x110 := own_gw o_x19 hb10
  have o_g010 := own_gw o_g09 hb10
  have o_t310 := own_gw o_t39 hb10
  have lo_t4 := lt_of_own o_t4
  go_wp2_with fail
  refine (l_eqRehearsalS _ _ _ _ _ _ hl_m (own_rd o_x110) (own_rd o_t4)).mono ?_
  rintro _ w11 ⟨rfl, hb11⟩
  have hz11 := hb11.size
  (try simp at hz11)
  have G11 : Gw w w11 := Gw.trans (G10) hb11
  have o_t111 := own_gw o_t110 hb11
  have o_t211 := own_gw o_t210 hb11
  have o_w011 := own_gw o_w010 hb11
  have o_x011 := own_gw o_x010 hb11
  have o_x111 := own_gw o_x110 hb11
  have o_g011 := own_gw o_g010 hb11
  have o_t311 := own_gw o_t310 hb11
  have o_t411 := own_gw o_t4 hb11
  go_wp2_with fail
  refine (l_markWindowS _ _ _ _ _ _ _ hl_l (by omega) o_x011).mono ?_
  rintro _ w12 ⟨rfl, m_x0, hg12⟩
  have hz12 := hg12.size
  have G12 := Gw.grown G11 hg12 (fun k hk => by have := lo_x0 k hk; first | omega | (simp; omega))
  have o_t112 := own_mark o_t111 hg12 lo_t1 lo_x0 (by omega)
  have o_t212 := own_mark o_t211 hg12 lo_t2 lo_x0 (by omega)
  have o_w012 := own_mark o_w011 hg12 lo_w0 lo_x0 (by omega)
  have o_x112 := own_mark o_x111 hg12 lo_x1 lo_x0 (by omega)
  have o_g012 := own_mark o_g011 hg12 lo_g0 lo_x0 (by omega)
  have o_t312 := own_mark o_t311 hg12 lo_t3 lo_x0 (by omega)
  have o_t412 := own_mark o_t411 hg12 lo_t4 lo_x0 (by omega)
  go_wp2_with fail
  refine (l_markRehearsalS _ _ _ _ _ _ _ hl_m (by omega) o_x112).mono ?_
  rintro _ w13 ⟨rfl, m_x1, hg13⟩
  have hz13 := hg13.size
  have G13 := Gw.grown G12 hg13 (fun k hk => by have := lo_x1 k hk; first | omega | (simp; omega))
  have o_t113 := own_mark o_t112 hg13 lo_t1 lo_x1 (by omega)
  have o_t213 := own_mark o_t212 hg13 lo_t2 lo_x1 (by omega)
  have o_w013 := own_mark o_w012 hg13 lo_w0 lo_x1 (by omega)
  have m_x013 := own_mark m_x0 hg13 lo_x0 lo_x1 (by omega)
  have o_g013 := own_mark o_g012 hg13 lo_g0 lo_x1 (by omega)
  have o_t313 := own_mark o_t312 hg13 lo_t3 lo_x1 (by omega)
  have o_t413 := own_mark o_t412 hg13 lo_t4 lo_x1 (by omega)
  go_wp2_with fail
  refine (l_eqIntS _ _ _ _ _ _ hlr (own_rd o_g013) (own_rd o_w013)).mono ?_
  rintro _ w14 ⟨rfl, hb14⟩
  have hz14 := hb14.size
  (try simp at hz14)
  have G14 : Gw w w14 := Gw.trans (G13) hb14
  have o_t114 := own_gw o_t113 hb14
  have o_t214 := own_gw o_t213 hb14
  have o_w014 := own_gw o_w013 hb14
  have m_x014 := own_gw m_x013 hb14
  have m_x114 := own_gw m_x1 hb14
  have o_g014 := own_gw o_g013 hb14
  have o_t314 := own_gw o_t313 hb14
  have o_t414 := own_gw o_t413 hb14
  go_wp2_with fail
  refine (l_markIntS _ _ _ _ _ _ _ hlr (by omega) o_g014).mono ?_
  rintro _ w15 ⟨rfl, m_g0, hg15⟩
  have hz15 := hg15.size
  have G15 := Gw.grown G14 hg15 (fun k hk => by have := lo_g0 k hk; first | omega | (simp; omega))
  have o_t115 := own_mark o_t114 hg15 lo_t1 lo_g0 (by omega)
  have o_t215 := own_mark o_t214 hg15 lo_t2 lo_g0 (by omega)
  have o_w015 := own_mark o_w014 hg15 lo_w0 lo_g0 (by omega)
  have m_x015 := own_mark m_x014 hg15 lo_x0 lo_g0 (by omega)
  have m_x115 := own_mark m_x114 hg15 lo_x1 lo_g0 (by omega)
  have o_t315 := own_mark o_t314 hg15 lo_t3 lo_g0 (by omega)
  have o_t415 := own_mark o_t414 hg15 lo_t4 lo_g0 (by omega)
  go_wp2_with fail
  refine (l_heldIntS _ _ _ _ _ _ hlr (by omega) m_g0).mono ?_
  rintro _ _ ⟨rfl, rfl⟩
  go_wp2_with fail
  refine (l_toWindowS _ _ _ _ hl_l (rd_l.gw G15)).mono ?_
  rintro _ w16 ⟨g_t5, rfl, hg_t5, o_t5, hb16⟩
  have hz16 := hb16.size
  (try simp at hz16)
  have G16 : Gw w w16 := Gw.trans (G15) hb16
  have o_t116 := own_gw o_t115 hb16
  have o_t216 := own_gw o_t215 hb16
  have o_w016 := own_gw o_w015 hb16
  have m_x016 := own_gw m_x015 hb16
  have m_x116 := own_gw m_x115 hb16
  have m_g016 := own_gw m_g0 hb16
  have o_t316 := own_gw o_t315 hb16
  have o_t416 := own_gw o_t415 hb16
  have lo_t5 := lt_of_own o_t5
  go_wp2_with fail
  refine (l_toRehearsalS _ _ _ _ hl_m (rd_m.gw G16)).mono ?_
  rintro _ w17 ⟨g_t6, rfl, hg_t6, o_t6, hb17⟩
  have hz17 := hb17.size
  (try simp at hz17)
  have G17 : Gw w w17 := Gw.trans (G16) hb17
  have o_t117 := own_gw o_t116 hb17
  have o_t217 := own_gw o_t216 hb17
  have o_w017 := own_gw o_w016 hb17
  have m_x017 := own_gw m_x016 hb17
  have m_x117 := own_gw m_x116 hb17
  have m_g017 := own_gw m_g016 hb17
  have o_t317 := own_gw o_t316 hb17
  have o_t417 := own_gw o_t416 hb17
  have o_t517 := own_gw o_t5 hb17
  have lo_t6 := lt_of_own o_t6
  go_wp2_with fail
  refine (i_BestOrder _ _ _ _ _ _ _ hl_l (own_rd o_t517) (Nat.le_refl _) hl_m (own_rd o_t6) (Nat.le_refl _)).mono ?_
  rintro _ w18 ⟨A_h0, c_h0, rfl, o_h0, hb18⟩
  have hz18 := hb18.size
  (try simp at hz18)
  have G18 : Gw w w18 := Gw.trans (G17) hb18
  have o_t118 := own_gw o_t117 hb18
  have o_t218 := own_gw o_t217 hb18
  have o_w018 := own_gw o_w017 hb18
  have m_x018 := own_gw m_x017 hb18
  have m_x118 := own_gw m_x117 hb18
  have m_g018 := own_gw m_g017 hb18
  have o_t318 := own_gw o_t317 hb18
  have o_t418 := own_gw o_t417 hb18
  have o_t518 := own_gw o_t517 hb18
  have o_t618 := own_gw o_t6 hb18
  have lo_h0 := lt_of_own o_h0
  go_wp2_with fail
  refine (l_eqIntS _ _ _ _ _ _ hlr (own_rd o_h0) (own_rd o_w018)).mono ?_
  rintro _ w19 ⟨rfl, hb19⟩
  have hz19 := hb19.size
  (try simp at hz19)
  have G19 : Gw w w19 := Gw.trans (G18) hb19
  have o_t119 := own_gw o_t118 hb19
  have o_t219 := own_gw o_t218 hb19
  have o_w019 := own_gw o_w018 hb19
  have m_x019 := own_gw m_x018 hb19
  have m_x119 := own_gw m_x118 hb19
  have m_g019 := own_gw m_g018 hb19
  have o_t319 := own_gw o_t318 hb19
  have o_t419 := own_gw o_t418 hb19
  have o_t519 := own_gw o_t518 hb19
  have o_t619 := own_gw o_t618 hb19
  have o_h019 := own_gw o_h0 hb19
  go_wp2_with fail
  refine (l_heldIntS _ _ _ _ _ _ hlr (by omega) m_g019).mono ?_
  rintro _ _ ⟨rfl, rfl⟩
  go_wp2_with fail
  go_ret
  exact ⟨rfl, G19⟩


set_option maxRecDepth 100000 in
theorem lifted (os : Os) (started : os.Started) (H : Type) (enc : TypeId × Value → H) :
    ReturnsInHanded {} Try.checked os 3 .any (Rows.fnExactBestOrderSpec.pre6 enc Try.prog Try.f3 Rows.fnExactBestOrderRow.domain false) (Rows.fnExactBestOrderSpec.post enc Try.prog Try.f3 false true false false) := by
  refine returnsInHanded_of_change (C := Try.checked) own started (by kernel_rfl) Try.func3
    (ChangeSpec.witness6 (enc := enc) (C := Try.checked) false ⟨#[], #[.slice none 0 0, .slice none 0 0], []⟩ 8 (by kernel_rfl) (by kernel_rfl) (by kernel_rfl) (by kernel_rfl)) ?_
  intro W base args ds gs before hval0 hW hcnd _
  have hval : ∀ (j : Nat) t v, Try.f3.params[j]? = some t → args[j]? = some v → Value.okWide Try.prog W .any base t v := hval0
  have hW' := hW
  have hlt0 : ∀ p ∈ before, p.block < W.heap.size := fun p hp => hW.lt p hp
  obtain ⟨p, q, hA0, hV, rfl, hfz, hnd⟩ := hW
  have hlt : ∀ x ∈ p, x.block < W.heap.size := fun x hx => hlt0 x (List.mem_append_left _ hx)
  have hA : DataW.TrodAll enc Try.prog W 0 (fun _ => true) true Try.f3.params.toList args.toList ds p := hA0
  rw [Try.params3] at hA hval
  obtain ⟨v0, vs0, d0, ds0, p0, q0, hargs, rfl, rfl, h0, r0⟩ := trodAll_cons hA
  obtain ⟨v1, vs1, d1, ds1, p1, q1, rfl, rfl, rfl, h1, r1⟩ := trodAll_cons r0
  obtain ⟨rfl, rfl, rfl⟩ := trodAll_nil r1
  obtain rfl : args = #[v0, v1] := by cases args; simp_all
  obtain ⟨rfl, rfl⟩ := trodVars_none hV
  obtain ⟨A_l, l, c_l, rfl, hlc_l, hmc_l, rd_l, ok_l⟩ := open_rows (α := (Int×Int×Int)) (n := 6) Try.underlying22 (by kernel_rfl) (by kernel_rfl) (hval 0 22 v0 rfl rfl) h0 (fun x hx => hlt x (by simp [hx]))
  have hm_l : l.length ≤ 9223372036854775807 := by have := Nat.le_trans hlc_l hmc_l; unfold maxLen at this; omega
  obtain ⟨A_m, m, c_m, rfl, hlc_m, hmc_m, rd_m, ok_m⟩ := open_rows (α := (Int×Int)) (n := 6) Try.underlying23 (by kernel_rfl) (by kernel_rfl) (hval 1 23 v1 rfl rfl) h1 (fun x hx => hlt x (by simp [hx]))
  have hm_m : m.length ≤ 9223372036854775807 := by have := Nat.le_trans hlc_m hmc_m; unfold maxLen at this; omega
  refine (walk W A_l l c_l hm_l rd_l A_m m c_m hm_m rd_m).mono fun e W' ⟨he, hg⟩ => ?_
  subst he
  exact ⟨_, rfl, post_law (by kernel_rfl) (by rw [Try.params3]; exact plainTypes (by kernel_rfl)) rfl Try.underlying4 rfl ⟨rfl, rfl, rfl⟩ hW' hg⟩

theorem over : Rows.fnExactBestOrderRow.holds Try.pinned (OpenSpec.ofChange Rows.fnExactBestOrderSpec) :=
  OpenClaim.holds_of_wide 3 Try.f3 rfl rfl rfl rfl rfl rfl rfl ⟨rfl, rfl, rfl, rfl, rfl⟩ rfl rfl rfl rfl rfl (by kernel_rfl) Try.func3 (by kernel_rfl)
    (of_decide_eq_true (by kernel_rfl)) (by unfold Func.isWrapper; first | (rw [if_pos (by decide +kernel)]; kernel_rfl) | (rw [if_neg (by decide +kernel)]; exact ⟨rfl, rfl⟩))
    (fun os started H enc _ => lifted os started H enc)

/-- The statement. -/
theorem proved : Rows.FnExactBestOrderSaid :=
  over
#print axioms proved
end Go.Proofs.Ytipndibiioajmaa.lawFnExactBestOrder
