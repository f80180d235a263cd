/-
  The law FnExactAddWindow answers true at every input, and its arguments read afterwards as they read before.
-/
import Derived.Test.YtegokhpbjhanbaaRows
import Derived.Test.YtegokhpbjhanbaaHourV
import Derived.Test.YtegokhpbjhanbaaHourI
import Derived.Test.YtegokhpbjhanbaaLaw
import Derived.Test.YtegokhpbjhanbaaTyWindow
import Derived.Test.YtegokhpbjhanbaaTell
namespace Go.Proofs.Ytegokhpbjhanbaa.lawFnExactAddWindow
open Go.ChangeShapes Go.WideShapes Go.ChangeAt Go.RowKit
set_option linter.unusedVariables false

theorem own : ownKnob Try.prog.godebug = none := by kernel_rfl

-- params: rows:l:(Int×Int×Int) agg:p,f,t
-- import: HourV
-- import: HourI
-- import: Law
-- import: TyWindow
-- import: Tell
set_option maxHeartbeats 4000000 in
set_option maxRecDepth 100000 in
theorem walk (w : World) (A_l : Option Addr) (l : List (Int × Int × Int)) (c_l : Nat) (hm_l : l.length ≤ 9223372036854775807) (rd_l : Rd w A_l l) (p : Int) (wf_p : (Lit.int .i64 p).wf = true) (f : Int) (wf_f : (Lit.int .i64 f).wf = true) (t : Int) (wf_t : (Lit.int .i64 t).wf = true) :
    Calls Try.prog 3 #[.slice A_l l.length c_l, .agg #[.int .i64 p, .int .i64 f, .int .i64 t]] w fun e w' => e = .returned (.bool true) ∧ Gw w w' := by
  by_cases hs_l : l.length ≤ 1048576
  case neg =>
    go_enter Try.func3, Try.ntmps3
    go_wp2_with (first | (go_at_call 10; refine (l_szWindowS _ _ _ _ _ (by omega) (by omega)).mono ?_; first | (rw [if_neg (by omega)]; rintro e w' ⟨rfl, rfl⟩) | (rw [if_pos (by omega)]; rintro e w' ⟨rfl, rfl⟩)))
    go_ret
    exact ⟨rfl, by (repeat (first | with_reducible exact Gw.refl _ | with_reducible assumption | ((with_reducible refine Gw.set ?_ ?_ _); rotate_left; (focus (first | (simp; done) | (simp; omega) | omega))) | with_reducible refine Gw.alloc ?_ _ | with_reducible refine Gw.drew ?_ | with_reducible refine Gw.drewN ?_ _ | (refine Gw.trans ?_ (by with_reducible assumption))))⟩
  have hl_l : l.length ≤ 1048576 := by omega
  go_enter Try.func3, Try.ntmps3
  have hlr : (addF l p f t).1.length ≤ 1048576 := addF_len l p f t
  go_wp2_with fail
  refine (l_szWindowS _ _ _ _ _ (by omega) (by omega)).mono ?_
  rw [if_neg (by omega)]; rintro _ _ ⟨rfl, rfl⟩
  have hkeep : ∀ u, Gw (w.alloc (.cells #[.int .i64 p, .int .i64 f, .int .i64 t] 24)) u → (u.cell? ⟨w.heap.size, 0, none⟩ = some (.int .i64 p) ∧ u.cell? ⟨w.heap.size, 1, none⟩ = some (.int .i64 f) ∧ u.cell? ⟨w.heap.size, 2, none⟩ = some (.int .i64 t) ∧ Gw (w.alloc (.cells #[.int .i64 p, .int .i64 f, .int .i64 t] 24)) u) := fun u hu => ⟨box_cell hu (j := 0) rfl, box_cell hu (j := 1) rfl, box_cell hu (j := 2) rfl, hu⟩
  go_wp2_with fail
  go_region_held3 (fun u => u.cell? ⟨w.heap.size, 0, none⟩ = some (.int .i64 p) ∧ u.cell? ⟨w.heap.size, 1, none⟩ = some (.int .i64 f) ∧ u.cell? ⟨w.heap.size, 2, none⟩ = some (.int .i64 t) ∧ Gw (w.alloc (.cells #[.int .i64 p, .int .i64 f, .int .i64 t] 24)) u) (exact hkeep _ (by (repeat (first | with_reducible exact Gw.refl _ | with_reducible assumption | ((with_reducible refine Gw.set ?_ ?_ _); rotate_left; (focus (first | (simp; done) | (simp; omega) | omega))) | with_reducible refine Gw.alloc ?_ _ | with_reducible refine Gw.drew ?_ | with_reducible refine Gw.drewN ?_ _ | (refine Gw.trans ?_ (by with_reducible assumption)))))) (first | (go_at_call 12; refine (l_toWindowS _ _ _ _ hl_l (rd_l.gw (by (repeat (first | with_reducible exact Gw.refl _ | with_reducible assumption | ((with_reducible refine Gw.set ?_ ?_ _); rotate_left; (focus (first | (simp; done) | (simp; omega) | omega))) | with_reducible refine Gw.alloc ?_ _ | with_reducible refine Gw.drew ?_ | with_reducible refine Gw.drewN ?_ _ | (refine Gw.trans ?_ (by with_reducible assumption))))))).mono ?_; rintro _ w1 ⟨g_t1, rfl, hg_t1, o_t1, hb1⟩; have GS1 : Gw (w.alloc (.cells #[.int .i64 p, .int .i64 f, .int .i64 t] 24)) w1 := (by (repeat (first | with_reducible exact Gw.refl _ | with_reducible assumption | ((with_reducible refine Gw.set ?_ ?_ _); rotate_left; (focus (first | (simp; done) | (simp; omega) | omega))) | with_reducible refine Gw.alloc ?_ _ | with_reducible refine Gw.drew ?_ | with_reducible refine Gw.drewN ?_ _ | (refine Gw.trans ?_ (by with_reducible assumption))))); have G1 : Gw (w.alloc (.cells #[.int .i64 p, .int .i64 f, .int .i64 t] 24)) w1 := Gw.trans (Gw.refl (w.alloc (.cells #[.int .i64 p, .int .i64 f, .int .i64 t] 24))) GS1; have hz1 := GS1.size; (try simp at hz1); have lo_t1 := lt_of_own o_t1) | (go_at_call 13; refine (l_toWindow _ _ _ _).mono ?_; rintro _ w2 ⟨rfl, hb2⟩; have GS2 : Gw w1 w2 := (by (repeat (first | with_reducible exact Gw.refl _ | with_reducible assumption | ((with_reducible refine Gw.set ?_ ?_ _); rotate_left; (focus (first | (simp; done) | (simp; omega) | omega))) | with_reducible refine Gw.alloc ?_ _ | with_reducible refine Gw.drew ?_ | with_reducible refine Gw.drewN ?_ _ | (refine Gw.trans ?_ (by with_reducible assumption))))); have G2 : Gw (w.alloc (.cells #[.int .i64 p, .int .i64 f, .int .i64 t] 24)) w2 := Gw.trans G1 GS2; have o_t12 := own_gw o_t1 GS2; have hz2 := GS2.size; (try simp at hz2)) | (go_at_call 11; refine (s_AddWindow _ _ _ _ _ _ _ hl_l (own_rd (own_gw o_t12 (by (repeat (first | with_reducible exact Gw.refl _ | with_reducible assumption | ((with_reducible refine Gw.set ?_ ?_ _); rotate_left; (focus (first | (simp; done) | (simp; omega) | omega))) | with_reducible refine Gw.alloc ?_ _ | with_reducible refine Gw.drew ?_ | with_reducible refine Gw.drewN ?_ _ | (refine Gw.trans ?_ (by with_reducible assumption))))))) (Nat.le_refl _)).mono ?_; rintro _ w3 ⟨A_w0, c_w0, rfl, o_w0, hb3⟩; have GS3 : Gw w2 w3 := (by (repeat (first | with_reducible exact Gw.refl _ | with_reducible assumption | ((with_reducible refine Gw.set ?_ ?_ _); rotate_left; (focus (first | (simp; done) | (simp; omega) | omega))) | with_reducible refine Gw.alloc ?_ _ | with_reducible refine Gw.drew ?_ | with_reducible refine Gw.drewN ?_ _ | (refine Gw.trans ?_ (by with_reducible assumption))))); have G3 : Gw (w.alloc (.cells #[.int .i64 p, .int .i64 f, .int .i64 t] 24)) w3 := Gw.trans G2 GS3; have o_t13 := own_gw o_t12 GS3; have hz3 := GS3.size; (try simp at hz3); have lo_w0 := lt_of_own o_w0))
  have hc3 := G3.cells
  go_wp2_with fail
  refine (l_toWindowS _ _ _ _ hl_l (rd_l.gw (Gw.trans (by (repeat (first | with_reducible exact Gw.refl _ | with_reducible assumption | ((with_reducible refine Gw.set ?_ ?_ _); rotate_left; (focus (first | (simp; done) | (simp; omega) | omega))) | with_reducible refine Gw.alloc ?_ _ | with_reducible refine Gw.drew ?_ | with_reducible refine Gw.drewN ?_ _ | (refine Gw.trans ?_ (by with_reducible assumption))))) G3))).mono ?_
  rintro _ w4 ⟨g_x0, rfl, hg_x0, o_x0, hb4⟩
  have hz4 := hb4.size
  (try simp at hz4)
  have G4 := Gw.trans G3 hb4
  clear hc3
  have hc4 := G4.cells
  have o_t14 := own_gw o_t13 hb4
  have o_w04 := own_gw o_w0 hb4
  have lo_x0 := lt_of_own o_x0
  go_wp2_with fail
  refine (l_toWindow _ _ _ _).mono ?_
  rintro _ w5 ⟨rfl, hb5⟩
  have hz5 := hb5.size
  (try simp at hz5)
  have G5 := Gw.trans G4 hb5
  clear hc4
  have hc5 := G5.cells
  have o_t15 := own_gw o_t14 hb5
  have o_w05 := own_gw o_w04 hb5
  have o_x05 := own_gw o_x0 hb5
  go_wp2_with fail
  refine (i_AddWindow _ _ _ _ _ _ _ hl_l (own_rd o_x05) (Nat.le_refl _)).mono ?_
  rintro _ w6 ⟨A_g0, c_g0, rfl, o_g0, hb6⟩
  have hz6 := hb6.size
  (try simp at hz6)
  have G6 := Gw.trans G5 hb6
  clear hc5
  have hc6 := G6.cells
  have o_t16 := own_gw o_t15 hb6
  have o_w06 := own_gw o_w05 hb6
  have o_x06 := own_gw o_x05 hb6
  have lo_g0 := lt_of_own o_g0
  go_wp2_with fail
  refine (l_eqWindowS _ _ _ _ _ _ hlr (own_rd o_g0) (own_rd o_w06)).mono ?_
  rintro _ w7 ⟨rfl, hb7⟩
  have hz7 := hb7.size
  (try simp at hz7)
  have G7 := Gw.trans G6 hb7
  clear hc6
  have hc7 := G7.cells
  have o_t17 := own_gw o_t16 hb7
  have o_w07 := own_gw o_w06 hb7
  have o_x07 := own_gw o_x06 hb7
  have o_g07 := own_gw o_g0 hb7
  go_wp2_with fail
  refine (l_toWindowS _ _ _ _ hl_l (rd_l.gw (Gw.trans (by (repeat (first | with_reducible exact Gw.refl _ | with_reducible assumption | ((with_reducible refine Gw.set ?_ ?_ _); rotate_left; (focus (first | (simp; done) | (simp; omega) | omega))) | with_reducible refine Gw.alloc ?_ _ | with_reducible refine Gw.drew ?_ | with_reducible refine Gw.drewN ?_ _ | (refine Gw.trans ?_ (by with_reducible assumption))))) G7))).mono ?_
  rintro _ w8 ⟨g_t2, rfl, hg_t2, o_t2, hb8⟩
  have hz8 := hb8.size
  (try simp at hz8)
  have G8 := Gw.trans G7 hb8
  clear hc7
  have hc8 := G8.cells
  have o_t18 := own_gw o_t17 hb8
  have o_w08 := own_gw o_w07 hb8
  have o_x08 := own_gw o_x07 hb8
  have o_g08 := own_gw o_g07 hb8
  have lo_t2 := lt_of_own o_t2
  go_wp2_with fail
  refine (l_eqWindowS _ _ _ _ _ _ hl_l (own_rd o_x08) (own_rd o_t2)).mono ?_
  rintro _ w9 ⟨rfl, hb9⟩
  have hz9 := hb9.size
  (try simp at hz9)
  have G9 := Gw.trans G8 hb9
  clear hc8
  have hc9 := G9.cells
  have o_t19 := own_gw o_t18 hb9
  have o_w09 := own_gw o_w08 hb9
  have o_x09 := own_gw o_x08 hb9
  have o_g09 := own_gw o_g08 hb9
  have o_t29 := own_gw o_t2 hb9
  go_wp2_with fail
  refine (l_markWindowS _ _ _ _ _ _ _ hl_l (by omega) o_x09).mono ?_
  rintro _ w10 ⟨rfl, m_x0, hg10⟩
  have hz10 := hg10.size
  have G10 := Gw.grown G9 hg10 (fun k hk => by have := lo_x0 k hk; first | omega | (simp; omega))
  clear hc9
  have hc10 := G10.cells
  have o_t110 := own_mark o_t19 hg10 lo_t1 lo_x0 (by omega)
  have o_w010 := own_mark o_w09 hg10 lo_w0 lo_x0 (by omega)
  have o_g010 := own_mark o_g09 hg10 lo_g0 lo_x0 (by omega)
  have o_t210 := own_mark o_t29 hg10 lo_t2 lo_x0 (by omega)
  go_wp2_with fail
  refine (l_eqWindowS _ _ _ _ _ _ hlr (own_rd o_g010) (own_rd o_w010)).mono ?_
  rintro _ w11 ⟨rfl, hb11⟩
  have hz11 := hb11.size
  (try simp at hz11)
  have G11 := Gw.trans G10 hb11
  clear hc10
  have hc11 := G11.cells
  have o_t111 := own_gw o_t110 hb11
  have o_w011 := own_gw o_w010 hb11
  have m_x011 := own_gw m_x0 hb11
  have o_g011 := own_gw o_g010 hb11
  have o_t211 := own_gw o_t210 hb11
  go_wp2_with fail
  refine (l_markWindowS _ _ _ _ _ _ _ hlr (by omega) o_g011).mono ?_
  rintro _ w12 ⟨rfl, m_g0, hg12⟩
  have hz12 := hg12.size
  have G12 := Gw.grown G11 hg12 (fun k hk => by have := lo_g0 k hk; first | omega | (simp; omega))
  clear hc11
  have hc12 := G12.cells
  have o_t112 := own_mark o_t111 hg12 lo_t1 lo_g0 (by omega)
  have o_w012 := own_mark o_w011 hg12 lo_w0 lo_g0 (by omega)
  have m_x012 := own_mark m_x011 hg12 lo_x0 lo_g0 (by omega)
  have o_t212 := own_mark o_t211 hg12 lo_t2 lo_g0 (by omega)
  go_wp2_with fail
  refine (l_heldWindowS _ _ _ _ _ _ hlr (by omega) m_g0).mono ?_
  rintro _ _ ⟨rfl, rfl⟩
  go_wp2_with fail
  go_region_held3 (fun u => u.cell? ⟨w.heap.size, 0, none⟩ = some (.int .i64 p) ∧ u.cell? ⟨w.heap.size, 1, none⟩ = some (.int .i64 f) ∧ u.cell? ⟨w.heap.size, 2, none⟩ = some (.int .i64 t) ∧ Gw (w.alloc (.cells #[.int .i64 p, .int .i64 f, .int .i64 t] 24)) u) (exact hkeep _ (by (repeat (first | with_reducible exact Gw.refl _ | with_reducible assumption | ((with_reducible refine Gw.set ?_ ?_ _); rotate_left; (focus (first | (simp; done) | (simp; omega) | omega))) | with_reducible refine Gw.alloc ?_ _ | with_reducible refine Gw.drew ?_ | with_reducible refine Gw.drewN ?_ _ | (refine Gw.trans ?_ (by with_reducible assumption)))))) (first | (go_at_call 12; refine (l_toWindowS _ _ _ _ hl_l (rd_l.gw (by (repeat (first | with_reducible exact Gw.refl _ | with_reducible assumption | ((with_reducible refine Gw.set ?_ ?_ _); rotate_left; (focus (first | (simp; done) | (simp; omega) | omega))) | with_reducible refine Gw.alloc ?_ _ | with_reducible refine Gw.drew ?_ | with_reducible refine Gw.drewN ?_ _ | (refine Gw.trans ?_ (by with_reducible assumption))))))).mono ?_; rintro _ w13 ⟨g_t3, rfl, hg_t3, o_t3, hb13⟩; have GS13 : Gw w12 w13 := (by (repeat (first | with_reducible exact Gw.refl _ | with_reducible assumption | ((with_reducible refine Gw.set ?_ ?_ _); rotate_left; (focus (first | (simp; done) | (simp; omega) | omega))) | with_reducible refine Gw.alloc ?_ _ | with_reducible refine Gw.drew ?_ | with_reducible refine Gw.drewN ?_ _ | (refine Gw.trans ?_ (by with_reducible assumption))))); have G13 : Gw (w.alloc (.cells #[.int .i64 p, .int .i64 f, .int .i64 t] 24)) w13 := Gw.trans G12 GS13; have o_t113 := own_gw o_t112 GS13; have o_w013 := own_gw o_w012 GS13; have m_x013 := own_gw m_x012 GS13; have m_g013 := own_gw m_g0 GS13; have o_t213 := own_gw o_t212 GS13; have hz13 := GS13.size; (try simp at hz13); have lo_t3 := lt_of_own o_t3) | (go_at_call 13; refine (l_toWindow _ _ _ _).mono ?_; rintro _ w14 ⟨rfl, hb14⟩; have GS14 : Gw w13 w14 := (by (repeat (first | with_reducible exact Gw.refl _ | with_reducible assumption | ((with_reducible refine Gw.set ?_ ?_ _); rotate_left; (focus (first | (simp; done) | (simp; omega) | omega))) | with_reducible refine Gw.alloc ?_ _ | with_reducible refine Gw.drew ?_ | with_reducible refine Gw.drewN ?_ _ | (refine Gw.trans ?_ (by with_reducible assumption))))); have G14 : Gw (w.alloc (.cells #[.int .i64 p, .int .i64 f, .int .i64 t] 24)) w14 := Gw.trans G13 GS14; have o_t114 := own_gw o_t113 GS14; have o_w014 := own_gw o_w013 GS14; have m_x014 := own_gw m_x013 GS14; have m_g014 := own_gw m_g013 GS14; have o_t214 := own_gw o_t213 GS14; have o_t314 := own_gw o_t3 GS14; have hz14 := GS14.size; (try simp at hz14)) | (go_at_call 14; refine (i_AddWindow _ _ _ _ _ _ _ hl_l (own_rd (own_gw o_t314 (by (repeat (first | with_reducible exact Gw.refl _ | with_reducible assumption | ((with_reducible refine Gw.set ?_ ?_ _); rotate_left; (focus (first | (simp; done) | (simp; omega) | omega))) | with_reducible refine Gw.alloc ?_ _ | with_reducible refine Gw.drew ?_ | with_reducible refine Gw.drewN ?_ _ | (refine Gw.trans ?_ (by with_reducible assumption))))))) (Nat.le_refl _)).mono ?_; rintro _ w15 ⟨A_h0, c_h0, rfl, o_h0, hb15⟩; have GS15 : Gw w14 w15 := (by (repeat (first | with_reducible exact Gw.refl _ | with_reducible assumption | ((with_reducible refine Gw.set ?_ ?_ _); rotate_left; (focus (first | (simp; done) | (simp; omega) | omega))) | with_reducible refine Gw.alloc ?_ _ | with_reducible refine Gw.drew ?_ | with_reducible refine Gw.drewN ?_ _ | (refine Gw.trans ?_ (by with_reducible assumption))))); have G15 : Gw (w.alloc (.cells #[.int .i64 p, .int .i64 f, .int .i64 t] 24)) w15 := Gw.trans G14 GS15; have o_t115 := own_gw o_t114 GS15; have o_w015 := own_gw o_w014 GS15; have m_x015 := own_gw m_x014 GS15; have m_g015 := own_gw m_g014 GS15; have o_t215 := own_gw o_t214 GS15; have o_t315 := own_gw o_t314 GS15; have hz15 := GS15.size; (try simp at hz15); have lo_h0 := lt_of_own o_h0))
  clear hc12
  have hc15 := G15.cells
  go_wp2_with fail
  refine (l_eqWindowS _ _ _ _ _ _ hlr (own_rd o_h0) (own_rd o_w015)).mono ?_
  rintro _ w16 ⟨rfl, hb16⟩
  have hz16 := hb16.size
  (try simp at hz16)
  have G16 := Gw.trans G15 hb16
  clear hc15
  have hc16 := G16.cells
  have o_t116 := own_gw o_t115 hb16
  have o_w016 := own_gw o_w015 hb16
  have m_x016 := own_gw m_x015 hb16
  have m_g016 := own_gw m_g015 hb16
  have o_t216 := own_gw o_t215 hb16
  have o_t316 := own_gw o_t315 hb16
  have o_h016 := own_gw o_h0 hb16
  go_wp2_with fail
  refine (l_heldWindowS _ _ _ _ _ _ hlr (by omega) m_g016).mono ?_
  rintro _ _ ⟨rfl, rfl⟩
  go_wp2_with fail
  go_ret
  exact ⟨rfl, (Gw.trans (by (repeat (first | with_reducible exact Gw.refl _ | with_reducible assumption | ((with_reducible refine Gw.set ?_ ?_ _); rotate_left; (focus (first | (simp; done) | (simp; omega) | omega))) | with_reducible refine Gw.alloc ?_ _ | with_reducible refine Gw.drew ?_ | with_reducible refine Gw.drewN ?_ _ | (refine Gw.trans ?_ (by with_reducible assumption))))) G16)⟩


set_option maxRecDepth 100000 in
theorem lifted (os : Os) (started : os.Started) (H : Type) (enc : TypeId × Value → H) :
    ReturnsInHanded {} Try.checked os 3 .any (Rows.fnExactAddWindowSpec.pre6 enc Try.prog Try.f3 Rows.fnExactAddWindowRow.domain false) (Rows.fnExactAddWindowSpec.post enc Try.prog Try.f3 false true false false) := by
  refine returnsInHanded_of_change (C := Try.checked) own started (by kernel_rfl) Try.func3
    (ChangeSpec.witness6 (enc := enc) (C := Try.checked) false ⟨#[], #[.slice none 0 0, .agg #[.int .i64 0, .int .i64 0, .int .i64 0]], []⟩ 8 (by kernel_rfl) (by kernel_rfl) (by kernel_rfl) (by kernel_rfl)) ?_
  intro W base args ds gs before hval0 hW hcnd _
  have hval : ∀ (j : Nat) t v, Try.f3.params[j]? = some t → args[j]? = some v → Value.okWide Try.prog W .any base t v := hval0
  have hW' := hW
  have hlt0 : ∀ p ∈ before, p.block < W.heap.size := fun p hp => hW.lt p hp
  obtain ⟨p, q, hA0, hV, rfl, hfz, hnd⟩ := hW
  have hlt : ∀ x ∈ p, x.block < W.heap.size := fun x hx => hlt0 x (List.mem_append_left _ hx)
  have hA : DataW.TrodAll enc Try.prog W 0 (fun _ => true) true Try.f3.params.toList args.toList ds p := hA0
  rw [Try.params3] at hA hval
  obtain ⟨v0, vs0, d0, ds0, p0, q0, hargs, rfl, rfl, h0, r0⟩ := trodAll_cons hA
  obtain ⟨v1, vs1, d1, ds1, p1, q1, rfl, rfl, rfl, h1, r1⟩ := trodAll_cons r0
  obtain ⟨rfl, rfl, rfl⟩ := trodAll_nil r1
  obtain rfl : args = #[v0, v1] := by cases args; simp_all
  obtain ⟨rfl, rfl⟩ := trodVars_none hV
  obtain ⟨A_l, l, c_l, rfl, hlc_l, hmc_l, rd_l, ok_l⟩ := open_rows (α := (Int×Int×Int)) (n := 6) Try.underlying22 (by kernel_rfl) (by kernel_rfl) (hval 0 22 v0 rfl rfl) h0 (fun x hx => hlt x (by simp [hx]))
  have hm_l : l.length ≤ 9223372036854775807 := by have := Nat.le_trans hlc_l hmc_l; unfold maxLen at this; omega
  obtain ⟨cs1_0, rfl, ft1_0⟩ := open_flat (n := 6) (ks := [.int .i64, .int .i64, .int .i64]) Try.underlying24 (by kernel_rfl) (hval 1 24 v1 rfl rfl) h1
  obtain ⟨_, cs1_1, rfl, ⟨p, rfl, wf_p⟩, ft1_1⟩ := ft1_0.cons
  obtain ⟨_, cs1_2, rfl, ⟨f, rfl, wf_f⟩, ft1_2⟩ := ft1_1.cons
  obtain ⟨_, cs1_3, rfl, ⟨t, rfl, wf_t⟩, ft1_3⟩ := ft1_2.cons
  obtain rfl := ft1_3.nil
  refine (walk W A_l l c_l hm_l rd_l p wf_p f wf_f t wf_t).mono fun e W' ⟨he, hg⟩ => ?_
  subst he
  exact ⟨_, rfl, post_law (by kernel_rfl) (by rw [Try.params3]; exact plainTypes (by kernel_rfl)) rfl Try.underlying4 rfl ⟨rfl, rfl, rfl⟩ hW' hg⟩

theorem over : Rows.fnExactAddWindowRow.holds Try.pinned (OpenSpec.ofChange Rows.fnExactAddWindowSpec) :=
  OpenClaim.holds_of_wide 3 Try.f3 rfl rfl rfl rfl rfl rfl rfl ⟨rfl, rfl, rfl, rfl, rfl⟩ rfl rfl rfl rfl rfl (by kernel_rfl) Try.func3 (by kernel_rfl)
    (of_decide_eq_true (by kernel_rfl)) (by unfold Func.isWrapper; first | (rw [if_pos (by decide +kernel)]; kernel_rfl) | (rw [if_neg (by decide +kernel)]; exact ⟨rfl, rfl⟩))
    (fun os started H enc _ => lifted os started H enc)

/-- The statement. -/
theorem proved : Rows.FnExactAddWindowSaid :=
  over
#print axioms proved
end Go.Proofs.Ytegokhpbjhanbaa.lawFnExactAddWindow
