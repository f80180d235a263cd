/-
  Transitions of this chapter.
-/
import Derived.Test.YtphfaeefjcdjjaaDlH
namespace Go.Proofs.Ytphfaeefjcdjjaa
open Go.RowKit
set_option linter.unusedVariables false

set_option maxHeartbeats 4000000 in
theorem s_chPair (A : Option Addr) (ca : Nat) (F : List (Int × Int)) (B : Option Addr) (cb : Nat) (G : List (Int × Int)) (w : World) (hF : F.length ≤ 1048576) (rF : Rd w A F) (hca : F.length ≤ ca) (hG : G.length ≤ 1048576) (rG : Rd w B G) (hcb : G.length ≤ cb) :
    Calls Try.prog 36 #[.slice A F.length ca, .slice B G.length cb] w (Tells (ChartP F ∧ ChartP G ∧ F.length = G.length) w) := by
  obtain ⟨b1, h1⟩ := bool_of (ChartP F)
  obtain ⟨b2, h2⟩ := bool_of (ChartP G)
  have T1 := fun u (h : Rd u A F) => (s_chGood A ca F u hF h hca).mono (tells_bool h1)
  have T2 := fun u (h : Rd u B G) => (s_chGood B cb G u hG h hcb).mono (tells_bool h2)
  have T1 := Lib.hid T1
  have T2 := Lib.hid T2
  have H1 := Lib.hid h1
  have H2 := Lib.hid h2
  clear h1 h2
  obtain ⟨b3, h3⟩ := bool_of (F.length = G.length)
  have hle : ((F.length : Int) == (G.length : Int)) = b3 := by
    cases b3 with
    | true => have := h3.1 rfl; simp; omega
    | false => have : ¬F.length = G.length := fun h => absurd (h3.2 h) (by decide); simp; omega
  have H3 := Lib.hid h3
  clear h3
  have hiff : Hid ((b1 && b2 && b3) = true ↔ ChartP F ∧ ChartP G ∧ F.length = G.length) := by
    unfold Hid
    rw [Bool.and_eq_true, Bool.and_eq_true, H1.out, H2.out, H3.out, and_assoc]
  clear H1 H2 H3
  cases b1 with
  | false =>
    go_enter Try.func36, Try.ntmps36
    go_wp2_with fail
    refine (T1.out _ rF).mono ?_
    rintro _ w2 ⟨rfl, hb2⟩
    dsimp only
    go_wp2_with fail
    go_ret
    exact tells_of (by rw [← hiff.out]; simp) hb2
  | true =>
    cases b2 with
    | false =>
      go_enter Try.func36, Try.ntmps36
      go_wp2_with fail
      refine (T1.out _ rF).mono ?_
      rintro _ w2 ⟨rfl, hb2⟩
      dsimp only
      go_wp2_with fail
      refine (T2.out _ (rG.gw hb2)).mono ?_
      rintro _ w3 ⟨rfl, hb3⟩
      dsimp only
      go_wp2_with fail
      go_ret
      exact tells_of (by rw [← hiff.out]; simp) (hb2.trans hb3)
    | true =>
      go_enter Try.func36, Try.ntmps36
      go_wp2_with fail
      refine (T1.out _ rF).mono ?_
      rintro _ w2 ⟨rfl, hb2⟩
      dsimp only
      go_wp2_with fail
      refine (T2.out _ (rG.gw hb2)).mono ?_
      rintro _ w3 ⟨rfl, hb3⟩
      dsimp only
      go_wp2_with fail
      go_ret
      exact tells_of (by rw [← hiff.out]; simp) (hb2.trans hb3)

set_option maxHeartbeats 4000000 in
theorem s_asGood (A : Option Addr) (ca : Nat) (F : List (Int × Int)) (B : Option Addr) (cb : Nat) (G : List (Int × Int)) (C : Int) (D : Option Addr) (cd : Nat) (P : List Int) (w : World) (hF : F.length ≤ 1048576) (rF : Rd w A F) (hca : F.length ≤ ca) (hG : G.length ≤ 1048576) (rG : Rd w B G) (hcb : G.length ≤ cb) (hP : P.length ≤ 1048576) (rP : Rd w D P) (hcd : P.length ≤ cd) :
    Calls Try.prog 25 #[.agg #[.slice A F.length ca, .slice B G.length cb, .int .i64 C, .slice D P.length cd]] w (Tells (TransP F G C P) w) := by
  obtain ⟨b1, h1⟩ := bool_of (ChartP F ∧ ChartP G ∧ F.length = G.length)
  have T1 := fun u (h : Rd u A F) (h' : Rd u B G) => (s_chPair A ca F B cb G u hF h hca hG h' hcb).mono (tells_bool h1)
  have T1 := Lib.hid T1
  have H1 := Lib.hid h1
  clear h1
  have g0 := ((Gw.refl w).alloc (.cells #[.slice A F.length ca, .slice B G.length cb, .int .i64 C, .slice D P.length cd] 31))
  cases b1 with
  | false =>
    have hno : Hid (¬TransP F G C P) := fun h => absurd (H1.out.2 ⟨h.1, h.2.1, h.2.2.1⟩) (by decide)
    go_enter Try.func25, Try.ntmps25
    go_wp2_with fail
    refine (T1.out _ (rF.gw g0) (rG.gw g0)).mono ?_
    rintro _ w2 ⟨rfl, hb2⟩
    dsimp only
    go_wp2_with fail
    go_ret
    exact .inr ⟨hno.out, rfl, g0.trans hb2⟩
  | true =>
    have c1 := Lib.hid (H1.out.1 rfl)
    have n12 : F.length ≤ 12 := c1.out.1.2.2
    obtain ⟨b4, h4⟩ := bool_of (MatchP P F.length)
    have T4 := fun u (h : Rd u D P) => (s_maPlaces D cd P F.length u hP h hcd n12).mono (tells_bool h4)
    have T4 := Lib.hid T4
    have H4 := Lib.hid h4
    clear h4
    by_cases hC : InR C 1 64
    · have HC := Lib.hid hC
      clear hC
      go_enter Try.func25, Try.ntmps25
      go_wp2_with fail
      refine (T1.out _ (rF.gw g0) (rG.gw g0)).mono ?_
      rintro _ w2 ⟨rfl, hb2⟩
      have y0 := box_cell hb2 (j := 0) rfl
      have y2 := box_cell hb2 (j := 2) rfl
      have y3 := box_cell hb2 (j := 3) rfl
      dsimp only
      go_wp2_with fail
      refine (s_l1In _ _ _ _).mono ?_
      rintro _ w4 (⟨hp, rfl, rfl⟩ | ⟨hp, rfl, rfl⟩)
      case inr => exact absurd HC.out hp
      clear hp
      dsimp only
      go_wp2_with fail
      refine (T4.out _ (rP.gw (g0.trans hb2))).mono ?_
      rintro _ w5 ⟨rfl, hb5⟩
      dsimp only
      go_wp2_with fail
      go_ret
      exact tells_of ⟨fun h => ⟨c1.out.1, c1.out.2.1, c1.out.2.2, HC.out, H4.out.1 h⟩, fun h => H4.out.2 h.2.2.2.2⟩ ((g0.trans hb2).trans hb5)
    · have hno : Hid (¬TransP F G C P) := fun h => hC h.2.2.2.1
      have HC := Lib.hid hC
      clear hC
      go_enter Try.func25, Try.ntmps25
      go_wp2_with fail
      refine (T1.out _ (rF.gw g0) (rG.gw g0)).mono ?_
      rintro _ w2 ⟨rfl, hb2⟩
      have y0 := box_cell hb2 (j := 0) rfl
      have y2 := box_cell hb2 (j := 2) rfl
      have y3 := box_cell hb2 (j := 3) rfl
      dsimp only
      go_wp2_with fail
      refine (s_l1In _ _ _ _).mono ?_
      rintro _ w4 (⟨hp, rfl, rfl⟩ | ⟨hp, rfl, rfl⟩)
      case inl => exact absurd hp HC.out
      clear hp
      dsimp only
      go_wp2_with fail
      go_ret
      exact .inr ⟨hno.out, rfl, g0.trans hb2⟩

set_option maxHeartbeats 4000000 in
theorem i_isRepaired (A : Option Addr) (ca : Nat) (F : List (Int × Int)) (B : Option Addr) (cb : Nat) (G : List (Int × Int)) (C : Int) (D : Option Addr) (cd : Nat) (P : List Int) (w : World) (hF : F.length ≤ 1048576) (rF : Rd w A F) (hca : F.length ≤ ca) (hG : G.length ≤ 1048576) (rG : Rd w B G) (hcb : G.length ≤ cb) (hP : P.length ≤ 1048576) (rP : Rd w D P) (hcd : P.length ≤ cd) :
    Calls Try.prog 20 #[.agg #[.slice A F.length ca, .slice B G.length cb, .int .i64 C, .slice D P.length cd]] w (Tells (RepT F G C P) w) := by
  obtain ⟨b1, h1⟩ := bool_of (TransP F G C P)
  have T1 := fun u (h : Rd u A F) (h' : Rd u B G) (h'' : Rd u D P) => (i_IsTransition A ca F B cb G C D cd P u hF h hca hG h' hcb hP h'' hcd).mono (tells_bool h1)
  have T1 := Lib.hid T1
  have H1 := Lib.hid h1
  clear h1
  have g0 := ((Gw.refl w).alloc (.cells #[.slice A F.length ca, .slice B G.length cb, .int .i64 C, .slice D P.length cd] 31))
  cases b1 with
  | false =>
    have hno : Hid (¬RepT F G C P) := fun h => absurd (H1.out.2 h.1) (by decide)
    go_enter Try.func20, Try.ntmps20
    go_wp2_with fail
    refine (T1.out _ (rF.gw g0) (rG.gw g0) (rP.gw g0)).mono ?_
    rintro _ w2 ⟨rfl, hb2⟩
    dsimp only
    go_wp2_with fail
    go_ret
    exact .inr ⟨hno.out, rfl, g0.trans hb2⟩
  | true =>
    have c1 := Lib.hid (H1.out.1 rfl)
    by_cases hC : C ≤ 16
    · go_enter Try.func20, Try.ntmps20
      go_wp2_with fail
      refine (T1.out _ (rF.gw g0) (rG.gw g0) (rP.gw g0)).mono ?_
      rintro _ w2 ⟨rfl, hb2⟩
      have y0 := box_cell hb2 (j := 0) rfl
      have y2 := box_cell hb2 (j := 2) rfl
      dsimp only
      go_wp2_with fail
      go_ret
      exact tells_of (by simp only [decide_eq_true_eq]; exact ⟨fun h => ⟨c1.out, hC, by omega⟩, fun h => by have := h.2.2; omega⟩) (g0.trans hb2)
    · have hno : Hid (¬RepT F G C P) := fun h => hC h.2.1
      go_enter Try.func20, Try.ntmps20
      go_wp2_with fail
      refine (T1.out _ (rF.gw g0) (rG.gw g0) (rP.gw g0)).mono ?_
      rintro _ w2 ⟨rfl, hb2⟩
      have y0 := box_cell hb2 (j := 0) rfl
      have y2 := box_cell hb2 (j := 2) rfl
      dsimp only
      go_wp2_with fail
      go_ret
      exact tells_of ⟨fun h => by simp at h, fun h => absurd h hno.out⟩ (g0.trans hb2)

set_option maxHeartbeats 4000000 in
theorem s_rpGood (A : Option Addr) (ca : Nat) (F : List (Int × Int)) (B : Option Addr) (cb : Nat) (G : List (Int × Int)) (C : Int) (D : Option Addr) (cd : Nat) (P : List Int) (w : World) (hF : F.length ≤ 1048576) (rF : Rd w A F) (hca : F.length ≤ ca) (hG : G.length ≤ 1048576) (rG : Rd w B G) (hcb : G.length ≤ cb) (hP : P.length ≤ 1048576) (rP : Rd w D P) (hcd : P.length ≤ cd) :
    Calls Try.prog 15 #[.agg #[.slice A F.length ca, .slice B G.length cb, .int .i64 C, .slice D P.length cd]] w (Tells (RepT F G C P) w) := by
  obtain ⟨b1, h1⟩ := bool_of (TransP F G C P)
  have T1 := fun u (h : Rd u A F) (h' : Rd u B G) (h'' : Rd u D P) => (s_asGood A ca F B cb G C D cd P u hF h hca hG h' hcb hP h'' hcd).mono (tells_bool h1)
  have T1 := Lib.hid T1
  have H1 := Lib.hid h1
  clear h1
  have g0 := ((Gw.refl w).alloc (.cells #[.slice A F.length ca, .slice B G.length cb, .int .i64 C, .slice D P.length cd] 31))
  cases b1 with
  | false =>
    have hno : Hid (¬RepT F G C P) := fun h => absurd (H1.out.2 h.1) (by decide)
    go_enter Try.func15, Try.ntmps15
    go_wp2_with fail
    refine (T1.out _ (rF.gw g0) (rG.gw g0) (rP.gw g0)).mono ?_
    rintro _ w2 ⟨rfl, hb2⟩
    dsimp only
    go_wp2_with fail
    go_ret
    exact .inr ⟨hno.out, rfl, g0.trans hb2⟩
  | true =>
    have c1 := Lib.hid (H1.out.1 rfl)
    by_cases hC : C ≤ 16
    · go_enter Try.func15, Try.ntmps15
      go_wp2_with fail
      refine (T1.out _ (rF.gw g0) (rG.gw g0) (rP.gw g0)).mono ?_
      rintro _ w2 ⟨rfl, hb2⟩
      have y0 := box_cell hb2 (j := 0) rfl
      have y2 := box_cell hb2 (j := 2) rfl
      dsimp only
      go_wp2_with fail
      go_ret
      exact tells_of (by simp only [decide_eq_true_eq]; exact ⟨fun h => ⟨c1.out, hC, by omega⟩, fun h => by have := h.2.2; omega⟩) (g0.trans hb2)
    · have hno : Hid (¬RepT F G C P) := fun h => hC h.2.1
      go_enter Try.func15, Try.ntmps15
      go_wp2_with fail
      refine (T1.out _ (rF.gw g0) (rG.gw g0) (rP.gw g0)).mono ?_
      rintro _ w2 ⟨rfl, hb2⟩
      have y0 := box_cell hb2 (j := 0) rfl
      have y2 := box_cell hb2 (j := 2) rfl
      dsimp only
      go_wp2_with fail
      go_ret
      exact tells_of ⟨fun h => by simp at h, fun h => absurd h hno.out⟩ (g0.trans hb2)
end Go.Proofs.Ytphfaeefjcdjjaa
