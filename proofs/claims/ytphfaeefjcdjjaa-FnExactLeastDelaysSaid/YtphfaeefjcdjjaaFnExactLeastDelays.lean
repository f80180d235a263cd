/-
  The law FnExactLeastDelays answers true at every input, and its arguments read afterwards as they read before.
-/
import Derived.Test.YtphfaeefjcdjjaaRows
import Derived.Test.YtphfaeefjcdjjaaDlR
import Derived.Test.YtphfaeefjcdjjaaDlN
import Derived.Test.YtphfaeefjcdjjaaTyTrans
import Derived.Test.YtphfaeefjcdjjaaTyInt
import Derived.Test.YtphfaeefjcdjjaaLaw
import Derived.Test.YtphfaeefjcdjjaaTell
import Derived.Test.YtphfaeefjcdjjaaOpenT
namespace Go.Proofs.Ytphfaeefjcdjjaa.lawFnExactLeastDelays
open Go.ChangeShapes Go.WideShapes Go.ChangeAt Go.RowKit
set_option linter.unusedVariables false

theorem own : ownKnob Try.prog.godebug = none := by kernel_rfl

-- params: trans:F,G,C,P int:least
-- import: DlR
-- import: DlN
-- import: TyTrans
-- import: TyInt
-- import: Law
-- import: Tell
-- import: OpenT
theorem own_ne {w w' : World} {base size n g : Nat} {e : TypeId} {v : Value} {xs : List Value} (h : w.ownsRow base e size v n xs) (hg : w.grownBy w' (some g)) (hne : ∀ k, v.ownBlock = some k → k ≠ g) : w'.ownsRow base e size v n xs := by
  refine h.kept hg ?_
  cases hv : v.ownBlock with
  | none => exact .inl rfl
  | some k => exact .inr fun he => hne k hv (Option.some.inj he)
theorem own_marks {w w' u1 u2 u3 : World} {base size n a b c : Nat} {e : TypeId} {v : Value} {xs : List Value} (h : w.ownsRow base e size v n xs) (h1 : Gw w u1) (h2 : u1.grownBy u2 (some a)) (h3 : u2.grownBy u3 (some b)) (h4 : u3.grownBy w' (some c)) (hne : ∀ k, v.ownBlock = some k → k ≠ a ∧ k ≠ b ∧ k ≠ c) : w'.ownsRow base e size v n xs :=
  own_ne (own_ne (own_ne (own_gw h h1) h2 fun k hk => (hne k hk).1) h3 fun k hk => (hne k hk).2.1) h4 fun k hk => (hne k hk).2.2
theorem gw_marks {u w w' u1 u2 u3 : World} {a b c : Nat} (h : Gw u w) (h1 : Gw w u1) (h2 : u1.grownBy u2 (some a)) (h3 : u2.grownBy u3 (some b)) (h4 : u3.grownBy w' (some c)) (ha : u.heap.size ≤ a) (hb : u.heap.size ≤ b) (hc : u.heap.size ≤ c) : Gw u w' :=
  (((h.trans h1).grown h2 fun k hk => by cases hk; exact ha).grown h3 fun k hk => by cases hk; exact hb).grown h4 fun k hk => by cases hk; exact hc

set_option maxHeartbeats 8000000 in
set_option maxRecDepth 100000 in
theorem walk (w : World) (A_F : Option Addr) (F : List (Int × Int)) (c_F : Nat) (hm_F : F.length ≤ 9223372036854775807) (rd_F : Rd w A_F F) (A_G : Option Addr) (G : List (Int × Int)) (c_G : Nat) (hm_G : G.length ≤ 9223372036854775807) (rd_G : Rd w A_G G) (C : Int) (wf_C : (Lit.int .i64 C).wf = true) (A_P : Option Addr) (P : List Int) (c_P : Nat) (hm_P : P.length ≤ 9223372036854775807) (rd_P : Rd w A_P P) (least : Int) (wf_least : (Lit.int .i64 least).wf = true) :
    Calls Try.prog 3 #[.agg #[.slice A_F F.length c_F, .slice A_G G.length c_G, .int .i64 C, .slice A_P P.length c_P], .int .i64 least] w fun e w' => e = .returned (.bool true) ∧ Gw w w' := by
  have rd_F := Lib.hid rd_F
  have rd_G := Lib.hid rd_G
  have rd_P := Lib.hid rd_P
  have g0 := (Gw.refl w).alloc (.cells #[.slice A_F F.length c_F, .slice A_G G.length c_G, .int .i64 C, .slice A_P P.length c_P] 25)
  by_cases hs : F.length + G.length + P.length ≤ 1048576
  case neg =>
    go_enter Try.func3, Try.ntmps3
    go_wp2_with fail
    refine (l_szTransition _ _ _ _ _ _ _ _ _ _ _ hm_F hm_G hm_P).mono ?_
    rintro _ w1 ⟨rfl, hb1⟩
    rw [if_neg hs]
    dsimp only
    go_wp2_with fail
    go_ret
    exact ⟨rfl, g0.trans hb1⟩
  have hl_F : F.length ≤ 1048576 := by omega
  have hl_G : G.length ≤ 1048576 := by omega
  have hl_P : P.length ≤ 1048576 := by omega
  have hneg : decide ((1048576 : Int) - (F.length : Int) - (G.length : Int) - (P.length : Int) < 0) = false := by simp; omega
  have hlr : (leastF F G C P least).1.length ≤ 1048576 := leastF_len _ _ _ _ _
  go_enter Try.func3, Try.ntmps3
  go_wp2_with fail
  obtain ⟨B, hB⟩ : ∃ B : World, B = w.alloc (.cells #[.slice A_F F.length c_F, .slice A_G G.length c_G, .int .i64 C, .slice A_P P.length c_P] 25) := ⟨_, rfl⟩
  rw [← hB] at g0 ⊢
  have hBx : BoxR B w.heap.size #[.slice A_F F.length c_F, .slice A_G G.length c_G, .int .i64 C, .slice A_P P.length c_P] 25 := by rw [hB]; exact BoxR.new _ _ _
  have bx := Lib.hid hBx
  have hzB : B.heap.size = w.heap.size + 1 := by rw [hB]; simp
  have gB := Lib.hid g0
  have rF := Lib.hid (rd_F.out.gw g0)
  have rG := Lib.hid (rd_G.out.gw g0)
  have rP := Lib.hid (rd_P.out.gw g0)
  clear hB hBx g0 rd_F rd_G rd_P
  refine (l_szTransition _ _ _ _ _ _ _ _ _ _ _ hm_F hm_G hm_P).mono ?_
  rintro _ w1 ⟨rfl, hb1⟩
  have G1 : Gw B w1 := Gw.trans (Gw.refl B) hb1
  have hz1 := hb1.size
  rw [if_pos hs]
  have x1_0 := (bx.out.gw G1).cell 0 rfl
  have x1_1 := (bx.out.gw G1).cell 1 rfl
  have x1_2 := (bx.out.gw G1).cell 2 rfl
  have x1_3 := (bx.out.gw G1).cell 3 rfl
  dsimp only
  go_wp2_with fail
  refine (l_toTransition A_F c_F F A_G c_G G C A_P c_P P _ hl_F (rF.out.gw G1) hl_G (rG.out.gw G1) hl_P (rP.out.gw G1)).mono ?_
  rintro _ w2 ⟨fa, ga, pa, rfl, laa, lba, lca, lda, oFa, oGa, oPa, hb2⟩
  have G2 : Gw B w2 := Gw.trans G1 hb2
  have hz2 := hb2.size
  dsimp only
  go_wp2_with fail
  refine (s_LeastDelays _ _ F _ _ G C _ _ P least _ hl_F (own_rd oFa) (Nat.le_refl _) hl_G (own_rd oGa) (Nat.le_refl _) hl_P (own_rd oPa) (Nat.le_refl _)).mono ?_
  rintro _ w3 ⟨A_w, c_w, rfl, o_w, hb3⟩
  have G3 : Gw B w3 := Gw.trans G2 hb3
  have hz3 := hb3.size
  have oFa_3 := own_gw oFa hb3
  have oGa_3 := own_gw oGa hb3
  have oPa_3 := own_gw oPa hb3
  have lo_w := lt_of_own o_w
  clear oFa_3
  clear oGa_3
  clear oPa_3
  clear x1_0 x1_1 x1_2 x1_3
  have x3_0 := (bx.out.gw G3).cell 0 rfl
  have x3_1 := (bx.out.gw G3).cell 1 rfl
  have x3_2 := (bx.out.gw G3).cell 2 rfl
  have x3_3 := (bx.out.gw G3).cell 3 rfl
  dsimp only
  go_wp2_with fail
  refine (l_toTransition A_F c_F F A_G c_G G C A_P c_P P _ hl_F (rF.out.gw G3) hl_G (rG.out.gw G3) hl_P (rP.out.gw G3)).mono ?_
  rintro _ w4 ⟨fx, gx, px, rfl, lax, lbx, lcx, ldx, oFx, oGx, oPx, hb4⟩
  have G4 : Gw B w4 := Gw.trans G3 hb4
  have hz4 := hb4.size
  have o_w_4 := own_gw o_w hb4
  have sx := (G4).size
  dsimp only
  go_wp2_with fail
  obtain ⟨w5, hw5⟩ : ∃ w5 : World, w5 = w4.alloc (.cells #[.slice (some ⟨fx, 0, none⟩) F.length F.length, .slice (some ⟨gx, 0, none⟩) G.length G.length, .int .i64 C, .slice (some ⟨px, 0, none⟩) P.length P.length] 31) := ⟨_, rfl⟩
  rw [← hw5]
  have hb5 : Gw w4 w5 := by rw [hw5]; exact (Gw.refl _).alloc _
  have hby : BoxR w5 w4.heap.size #[.slice (some ⟨fx, 0, none⟩) F.length F.length, .slice (some ⟨gx, 0, none⟩) G.length G.length, .int .i64 C, .slice (some ⟨px, 0, none⟩) P.length P.length] 31 := by rw [hw5]; exact BoxR.new _ _ _
  have by9 := Lib.hid hby
  clear hby
  have hzy : w5.heap.size = w4.heap.size + 1 := by rw [hw5]; simp
  have G5 : Gw B w5 := Gw.trans G4 hb5
  have hz5 := hb5.size
  have o_w_5 := own_gw o_w_4 hb5
  clear o_w_4
  have oFx_5 := own_gw oFx hb5
  have oGx_5 := own_gw oGx hb5
  have oPx_5 := own_gw oPx hb5
  clear hw5
  have gY := Gw.refl w5
  refine (i_LeastDelays _ _ F _ _ G C _ _ P least _ hl_F (own_rd oFx_5) (Nat.le_refl _) hl_G (own_rd oGx_5) (Nat.le_refl _) hl_P (own_rd oPx_5) (Nat.le_refl _)).mono ?_
  rintro _ w6 ⟨A_g, c_g, rfl, o_g, hb6⟩
  have G6 : Gw B w6 := Gw.trans G5 hb6
  have hz6 := hb6.size
  have o_w_6 := own_gw o_w_5 hb6
  clear o_w_5
  have oFx_6 := own_gw oFx_5 hb6
  clear oFx_5
  have oGx_6 := own_gw oGx_5 hb6
  clear oGx_5
  have oPx_6 := own_gw oPx_5 hb6
  clear oPx_5
  have lo_g := lt_of_own o_g
  dsimp only
  go_wp2_with fail
  refine (l_eqIntS _ _ _ _ _ _ hlr (own_rd o_g) (own_rd o_w_6)).mono ?_
  rintro _ w7 ⟨rfl, hb7⟩
  have G7 : Gw B w7 := Gw.trans G6 hb7
  have hz7 := hb7.size
  have o_w_7 := own_gw o_w_6 hb7
  clear o_w_6
  have oFx_7 := own_gw oFx_6 hb7
  clear oFx_6
  have oGx_7 := own_gw oGx_6 hb7
  clear oGx_6
  have oPx_7 := own_gw oPx_6 hb7
  clear oPx_6
  have o_g_7 := own_gw o_g hb7
  dsimp only
  go_wp2_with fail
  have gY7 : Gw w5 w7 := (hb6.trans hb7)
  have hkeep : ∀ u, Gw w7 u → (u.cell? ⟨w.heap.size, 0, none⟩ = some (.slice A_F F.length c_F) ∧ u.cell? ⟨w.heap.size, 1, none⟩ = some (.slice A_G G.length c_G) ∧ u.cell? ⟨w.heap.size, 2, none⟩ = some (.int .i64 C) ∧ u.cell? ⟨w.heap.size, 3, none⟩ = some (.slice A_P P.length c_P) ∧ u.cell? ⟨w4.heap.size, 0, none⟩ = some (.slice (some ⟨fx, 0, none⟩) F.length F.length) ∧ u.cell? ⟨w4.heap.size, 1, none⟩ = some (.slice (some ⟨gx, 0, none⟩) G.length G.length) ∧ u.cell? ⟨w4.heap.size, 2, none⟩ = some (.int .i64 C) ∧ u.cell? ⟨w4.heap.size, 3, none⟩ = some (.slice (some ⟨px, 0, none⟩) P.length P.length)) := fun u hu => ⟨(bx.out.gw (G7.trans hu)).cell 0 rfl, (bx.out.gw (G7.trans hu)).cell 1 rfl, (bx.out.gw (G7.trans hu)).cell 2 rfl, (bx.out.gw (G7.trans hu)).cell 3 rfl, (by9.out.gw (gY7.trans hu)).cell 0 rfl, (by9.out.gw (gY7.trans hu)).cell 1 rfl, (by9.out.gw (gY7.trans hu)).cell 2 rfl, (by9.out.gw (gY7.trans hu)).cell 3 rfl⟩
  have Hkeep := Lib.hid hkeep
  clear hkeep
  go_region_held3 (fun u => u.cell? ⟨w.heap.size, 0, none⟩ = some (.slice A_F F.length c_F) ∧ u.cell? ⟨w.heap.size, 1, none⟩ = some (.slice A_G G.length c_G) ∧ u.cell? ⟨w.heap.size, 2, none⟩ = some (.int .i64 C) ∧ u.cell? ⟨w.heap.size, 3, none⟩ = some (.slice A_P P.length c_P) ∧ u.cell? ⟨w4.heap.size, 0, none⟩ = some (.slice (some ⟨fx, 0, none⟩) F.length F.length) ∧ u.cell? ⟨w4.heap.size, 1, none⟩ = some (.slice (some ⟨gx, 0, none⟩) G.length G.length) ∧ u.cell? ⟨w4.heap.size, 2, none⟩ = some (.int .i64 C) ∧ u.cell? ⟨w4.heap.size, 3, none⟩ = some (.slice (some ⟨px, 0, none⟩) P.length P.length)) (exact Hkeep.out _ (by (repeat (first | with_reducible exact Gw.refl _ | with_reducible assumption | ((with_reducible refine Gw.set ?_ ?_ _); rotate_left; (focus (first | (simp; done) | (simp; omega) | omega))) | with_reducible refine Gw.alloc ?_ _ | with_reducible refine Gw.drew ?_ | with_reducible refine Gw.drewN ?_ _ | (refine Gw.trans ?_ (by with_reducible assumption))))))
    (first
      | (go_at_call 6; refine (l_toTransition A_F c_F F A_G c_G G C A_P c_P P _ hl_F (rF.out.gw (Gw.trans G7 (by (repeat (first | with_reducible exact Gw.refl _ | with_reducible assumption | ((with_reducible refine Gw.set ?_ ?_ _); rotate_left; (focus (first | (simp; done) | (simp; omega) | omega))) | with_reducible refine Gw.alloc ?_ _ | with_reducible refine Gw.drew ?_ | with_reducible refine Gw.drewN ?_ _ | (refine Gw.trans ?_ (by with_reducible assumption))))))) hl_G (rG.out.gw (Gw.trans G7 (by (repeat (first | with_reducible exact Gw.refl _ | with_reducible assumption | ((with_reducible refine Gw.set ?_ ?_ _); rotate_left; (focus (first | (simp; done) | (simp; omega) | omega))) | with_reducible refine Gw.alloc ?_ _ | with_reducible refine Gw.drew ?_ | with_reducible refine Gw.drewN ?_ _ | (refine Gw.trans ?_ (by with_reducible assumption))))))) hl_P (rP.out.gw (Gw.trans G7 (by (repeat (first | with_reducible exact Gw.refl _ | with_reducible assumption | ((with_reducible refine Gw.set ?_ ?_ _); rotate_left; (focus (first | (simp; done) | (simp; omega) | omega))) | with_reducible refine Gw.alloc ?_ _ | with_reducible refine Gw.drew ?_ | with_reducible refine Gw.drewN ?_ _ | (refine Gw.trans ?_ (by with_reducible assumption)))))))).mono ?_; rintro _ w8 ⟨fz, gz, pz, rfl, laz, lbz, lcz, ldz, oFz, oGz, oPz, hb8⟩; have GS8 : Gw w7 w8 := Gw.trans (by (repeat (first | with_reducible exact Gw.refl _ | with_reducible assumption | ((with_reducible refine Gw.set ?_ ?_ _); rotate_left; (focus (first | (simp; done) | (simp; omega) | omega))) | with_reducible refine Gw.alloc ?_ _ | with_reducible refine Gw.drew ?_ | with_reducible refine Gw.drewN ?_ _ | (refine Gw.trans ?_ (by with_reducible assumption))))) hb8)
      | (go_at_call 9; refine (l_eqTransition _ _ _ _ F _ _ _ _ G C _ _ _ _ P _ hl_F (own_rd (own_gw oFx_7 (Gw.trans GS8 (by (repeat (first | with_reducible exact Gw.refl _ | with_reducible assumption | ((with_reducible refine Gw.set ?_ ?_ _); rotate_left; (focus (first | (simp; done) | (simp; omega) | omega))) | with_reducible refine Gw.alloc ?_ _ | with_reducible refine Gw.drew ?_ | with_reducible refine Gw.drewN ?_ _ | (refine Gw.trans ?_ (by with_reducible assumption)))))))) (own_rd (own_gw oFz (by (repeat (first | with_reducible exact Gw.refl _ | with_reducible assumption | ((with_reducible refine Gw.set ?_ ?_ _); rotate_left; (focus (first | (simp; done) | (simp; omega) | omega))) | with_reducible refine Gw.alloc ?_ _ | with_reducible refine Gw.drew ?_ | with_reducible refine Gw.drewN ?_ _ | (refine Gw.trans ?_ (by with_reducible assumption))))))) hl_G (own_rd (own_gw oGx_7 (Gw.trans GS8 (by (repeat (first | with_reducible exact Gw.refl _ | with_reducible assumption | ((with_reducible refine Gw.set ?_ ?_ _); rotate_left; (focus (first | (simp; done) | (simp; omega) | omega))) | with_reducible refine Gw.alloc ?_ _ | with_reducible refine Gw.drew ?_ | with_reducible refine Gw.drewN ?_ _ | (refine Gw.trans ?_ (by with_reducible assumption)))))))) (own_rd (own_gw oGz (by (repeat (first | with_reducible exact Gw.refl _ | with_reducible assumption | ((with_reducible refine Gw.set ?_ ?_ _); rotate_left; (focus (first | (simp; done) | (simp; omega) | omega))) | with_reducible refine Gw.alloc ?_ _ | with_reducible refine Gw.drew ?_ | with_reducible refine Gw.drewN ?_ _ | (refine Gw.trans ?_ (by with_reducible assumption))))))) hl_P (own_rd (own_gw oPx_7 (Gw.trans GS8 (by (repeat (first | with_reducible exact Gw.refl _ | with_reducible assumption | ((with_reducible refine Gw.set ?_ ?_ _); rotate_left; (focus (first | (simp; done) | (simp; omega) | omega))) | with_reducible refine Gw.alloc ?_ _ | with_reducible refine Gw.drew ?_ | with_reducible refine Gw.drewN ?_ _ | (refine Gw.trans ?_ (by with_reducible assumption)))))))) (own_rd (own_gw oPz (by (repeat (first | with_reducible exact Gw.refl _ | with_reducible assumption | ((with_reducible refine Gw.set ?_ ?_ _); rotate_left; (focus (first | (simp; done) | (simp; omega) | omega))) | with_reducible refine Gw.alloc ?_ _ | with_reducible refine Gw.drew ?_ | with_reducible refine Gw.drewN ?_ _ | (refine Gw.trans ?_ (by with_reducible assumption)))))))).mono ?_; rintro _ w9 ⟨rfl, hb9⟩; have GS9 : Gw w7 w9 := Gw.trans GS8 (Gw.trans (by (repeat (first | with_reducible exact Gw.refl _ | with_reducible assumption | ((with_reducible refine Gw.set ?_ ?_ _); rotate_left; (focus (first | (simp; done) | (simp; omega) | omega))) | with_reducible refine Gw.alloc ?_ _ | with_reducible refine Gw.drew ?_ | with_reducible refine Gw.drewN ?_ _ | (refine Gw.trans ?_ (by with_reducible assumption))))) hb9))
      | fail)
  have G9 : Gw B w9 := Gw.trans G7 GS9
  have hz9 := GS9.size
  have o_w_9 := own_gw o_w_7 GS9
  clear o_w_7
  have oFx_9 := own_gw oFx_7 GS9
  clear oFx_7
  have oGx_9 := own_gw oGx_7 GS9
  clear oGx_7
  have oPx_9 := own_gw oPx_7 GS9
  clear oPx_7
  have o_g_9 := own_gw o_g_7 GS9
  clear o_g_7
  have gY9 := gY7.trans GS9
  clear x3_0 x3_1 x3_2 x3_3
  have y9_0 := (by9.out.gw gY9).cell 0 rfl
  have y9_1 := (by9.out.gw gY9).cell 1 rfl
  have y9_2 := (by9.out.gw gY9).cell 2 rfl
  have y9_3 := (by9.out.gw gY9).cell 3 rfl
  go_wp2_with fail
  have MX := l_markTransition fx F.length F.length _ gx G.length G.length _ C px P.length P.length _ _ w9 hl_F hl_G hl_P oFx_9 oGx_9 oPx_9 (by omega) (by omega) (by omega)
  refine MX.mono ?_
  rintro _ w10 ⟨⟨kk, rfl, hkk⟩, u1, u2, u3, m1, m2, m3, m4⟩
  have G10 : Gw B w10 := gw_marks G9 m1 m2 m3 m4 (by have := G3.size; omega) (by have := G3.size; omega) (by have := G3.size; omega)
  have o_w_10 := own_marks o_w_9 m1 m2 m3 m4 (fun k hk => by have := lo_w k hk; omega)
  have o_g_10 := own_marks o_g_9 m1 m2 m3 m4 (fun k hk => by have := lo_g k hk; omega)
  have zm : w9.heap.size ≤ w10.heap.size := by have h1 := m1.size; have h2 := m2.size; have h3 := m3.size; have h4 := m4.size; omega
  clear MX m1 m2 m3 m4 y9_0 y9_1 y9_2 y9_3 o_w_9 o_g_9
  clear oFx_9
  clear oGx_9
  clear oPx_9
  have hk0 : decide (kk < 0) = false := by simp; omega
  dsimp only
  go_wp2_with fail
  refine (l_eqIntS _ _ _ _ _ _ hlr (own_rd o_g_10) (own_rd o_w_10)).mono ?_
  rintro _ w11 ⟨rfl, hb11⟩
  have G11 : Gw B w11 := Gw.trans G10 hb11
  have hz11 := hb11.size
  have o_w_11 := own_gw o_w_10 hb11
  clear o_w_10
  have o_g_11 := own_gw o_g_10 hb11
  clear o_g_10
  dsimp only
  go_wp2_with fail
  refine (l_markIntS _ _ _ _ _ _ _ hlr (by omega) o_g_11).mono ?_
  rintro _ w12 ⟨rfl, m_g, hg12⟩
  have hz12 := hg12.size
  have G12 := Gw.grown G11 hg12 (fun k hk => by have := lo_g k hk; have := G3.size; omega)
  have o_w_12 := own_mark o_w_11 hg12 lo_w lo_g (by omega)
  dsimp only
  go_wp2_with fail
  refine (l_heldIntS _ _ _ _ _ _ hlr (by omega) m_g).mono ?_
  rintro _ _ ⟨rfl, rfl⟩
  have x12_0 := (bx.out.gw G12).cell 0 rfl
  have x12_1 := (bx.out.gw G12).cell 1 rfl
  have x12_2 := (bx.out.gw G12).cell 2 rfl
  have x12_3 := (bx.out.gw G12).cell 3 rfl
  dsimp only
  go_wp2_with fail
  refine (l_toTransition A_F c_F F A_G c_G G C A_P c_P P _ hl_F (rF.out.gw G12) hl_G (rG.out.gw G12) hl_P (rP.out.gw G12)).mono ?_
  rintro _ w13 ⟨fb, gb, pb, rfl, lab, lbb, lcb, ldb, oFb, oGb, oPb, hb13⟩
  have G13 : Gw B w13 := Gw.trans G12 hb13
  have hz13 := hb13.size
  have o_w_13 := own_gw o_w_12 hb13
  clear o_w_12
  have m_g_13 := own_gw m_g hb13
  dsimp only
  go_wp2_with fail
  refine (i_LeastDelays _ _ F _ _ G C _ _ P least _ hl_F (own_rd oFb) (Nat.le_refl _) hl_G (own_rd oGb) (Nat.le_refl _) hl_P (own_rd oPb) (Nat.le_refl _)).mono ?_
  rintro _ w14 ⟨A_h, c_h, rfl, o_h, hb14⟩
  have G14 : Gw B w14 := Gw.trans G13 hb14
  have hz14 := hb14.size
  have o_w_14 := own_gw o_w_13 hb14
  clear o_w_13
  have m_g_14 := own_gw m_g_13 hb14
  clear m_g_13
  have oFb_14 := own_gw oFb hb14
  have oGb_14 := own_gw oGb hb14
  have oPb_14 := own_gw oPb hb14
  have lo_h := lt_of_own o_h
  dsimp only
  go_wp2_with fail
  refine (l_eqIntS _ _ _ _ _ _ hlr (own_rd o_h) (own_rd o_w_14)).mono ?_
  rintro _ w15 ⟨rfl, hb15⟩
  have G15 : Gw B w15 := Gw.trans G14 hb15
  have hz15 := hb15.size
  have o_w_15 := own_gw o_w_14 hb15
  clear o_w_14
  have m_g_15 := own_gw m_g_14 hb15
  clear m_g_14
  have oFb_15 := own_gw oFb_14 hb15
  clear oFb_14
  have oGb_15 := own_gw oGb_14 hb15
  clear oGb_14
  have oPb_15 := own_gw oPb_14 hb15
  clear oPb_14
  have o_h_15 := own_gw o_h hb15
  dsimp only
  go_wp2_with fail
  refine (l_heldIntS _ _ _ _ _ _ hlr (by omega) m_g_15).mono ?_
  rintro _ _ ⟨rfl, rfl⟩
  dsimp only
  go_wp2_with fail
  go_ret
  exact ⟨rfl, gB.out.trans G15⟩


set_option maxRecDepth 100000 in
theorem lifted (os : Os) (started : os.Started) (H : Type) (enc : TypeId × Value → H) :
    ReturnsInHanded {} Try.checked os 3 .any (Rows.fnExactLeastDelaysSpec.pre6 enc Try.prog Try.f3 Rows.fnExactLeastDelaysRow.domain false) (Rows.fnExactLeastDelaysSpec.post enc Try.prog Try.f3 false true false false) := by
  refine returnsInHanded_of_change (C := Try.checked) own started (by kernel_rfl) Try.func3
    (ChangeSpec.witness6 (enc := enc) (C := Try.checked) false ⟨#[], #[.agg #[.slice none 0 0, .slice none 0 0, .int .i64 0, .slice none 0 0], .int .i64 0], []⟩ 8 (by kernel_rfl) (by kernel_rfl) (by kernel_rfl) (by kernel_rfl)) ?_
  intro W base args ds gs before hval0 hW hcnd _
  have hval : ∀ (j : Nat) t v, Try.f3.params[j]? = some t → args[j]? = some v → Value.okWide Try.prog W .any base t v := hval0
  have hW' := hW
  have hlt0 : ∀ p ∈ before, p.block < W.heap.size := fun p hp => hW.lt p hp
  obtain ⟨p, q, hA0, hV, rfl, hfz, hnd⟩ := hW
  have hlt : ∀ x ∈ p, x.block < W.heap.size := fun x hx => hlt0 x (List.mem_append_left _ hx)
  have hA : DataW.TrodAll enc Try.prog W 0 (fun _ => true) true Try.f3.params.toList args.toList ds p := hA0
  rw [Try.params3] at hA hval
  obtain ⟨v0, vs0, d0, ds0, p0, q0, hargs, rfl, rfl, h0, r0⟩ := trodAll_cons hA
  obtain ⟨v1, vs1, d1, ds1, p1, q1, rfl, rfl, rfl, h1, r1⟩ := trodAll_cons r0
  obtain ⟨rfl, rfl, rfl⟩ := trodAll_nil r1
  obtain rfl : args = #[v0, v1] := by cases args; simp_all
  obtain ⟨rfl, rfl⟩ := trodVars_none hV
  obtain ⟨A_F, F, c_F, A_G, G, c_G, C, A_P, P, c_P, rfl, ⟨hlc_F, hmc_F, rd_F⟩, ⟨hlc_G, hmc_G, rd_G⟩, wf_C, hlc_P, hmc_P, rd_P⟩ := open_trans (n := 6) Try.underlying25 rfl rfl rfl rfl (by kernel_rfl) (by kernel_rfl) (by kernel_rfl) (by kernel_rfl) (by kernel_rfl) Try.underlying22 Try.underlying22 Try.underlying3 Try.underlying23 (by kernel_rfl) (by kernel_rfl) (by kernel_rfl) (by kernel_rfl) (by kernel_rfl) (by kernel_rfl) (hval 0 25 v0 rfl rfl) h0
  have hm_F : F.length ≤ 9223372036854775807 := by have := Nat.le_trans hlc_F hmc_F; unfold maxLen at this; omega
  have hm_G : G.length ≤ 9223372036854775807 := by have := Nat.le_trans hlc_G hmc_G; unfold maxLen at this; omega
  have hm_P : P.length ≤ 9223372036854775807 := by have := Nat.le_trans hlc_P hmc_P; unfold maxLen at this; omega
  obtain ⟨least, rfl, rfl, rfl, wf_least⟩ := open_int Try.underlying3 (hval 1 3 v1 rfl rfl) h1
  refine (walk W A_F F c_F hm_F rd_F A_G G c_G hm_G rd_G C wf_C A_P P c_P hm_P rd_P least wf_least).mono fun e W' ⟨he, hg⟩ => ?_
  subst he
  exact ⟨_, rfl, post_law (by kernel_rfl) (by rw [Try.params3]; exact plainTypes (by kernel_rfl)) rfl Try.underlying4 rfl ⟨rfl, rfl, rfl⟩ hW' hg⟩

theorem over : Rows.fnExactLeastDelaysRow.holds Try.pinned (OpenSpec.ofChange Rows.fnExactLeastDelaysSpec) :=
  OpenClaim.holds_of_wide 3 Try.f3 rfl rfl rfl rfl rfl rfl rfl ⟨rfl, rfl, rfl, rfl, rfl⟩ rfl rfl rfl rfl rfl (by kernel_rfl) Try.func3 (by kernel_rfl)
    (of_decide_eq_true (by kernel_rfl)) (by unfold Func.isWrapper; first | (rw [if_pos (by decide +kernel)]; kernel_rfl) | (rw [if_neg (by decide +kernel)]; exact ⟨rfl, rfl⟩))
    (fun os started H enc _ => lifted os started H enc)

/-- The statement. -/
theorem proved : Rows.FnExactLeastDelaysSaid :=
  over
#print axioms proved
end Go.Proofs.Ytphfaeefjcdjjaa.lawFnExactLeastDelays
