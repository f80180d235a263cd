/-
  Transitions of this chapter.
-/
import Derived.Test.YtphfaeefjcdjjaaDlG
import Derived.Test.YtphfaeefjcdjjaaTell
namespace Go.Proofs.Ytphfaeefjcdjjaa
open Go.RowKit
set_option linter.unusedVariables false

abbrev TransP (F G : List (Int × Int)) (C : Int) (P : List Int) : Prop := ChartP F ∧ ChartP G ∧ F.length = G.length ∧ InR C 1 64 ∧ MatchP P F.length
abbrev RepT (F G : List (Int × Int)) (C : Int) (P : List Int) : Prop := TransP F G C P ∧ C ≤ 16 ∧ F.length ≤ 6

set_option maxHeartbeats 4000000 in
theorem i_IsTransition (A : Option Addr) (ca : Nat) (F : List (Int × Int)) (B : Option Addr) (cb : Nat) (G : List (Int × Int)) (C : Int) (D : Option Addr) (cd : Nat) (P : List Int) (w : World) (hF : F.length ≤ 1048576) (rF : Rd w A F) (hca : F.length ≤ ca) (hG : G.length ≤ 1048576) (rG : Rd w B G) (hcb : G.length ≤ cb) (hP : P.length ≤ 1048576) (rP : Rd w D P) (hcd : P.length ≤ cd) :
    Calls Try.prog 30 #[.agg #[.slice A F.length ca, .slice B G.length cb, .int .i64 C, .slice D P.length cd]] w (Tells (TransP F G C P) w) := by
  obtain ⟨b1, h1⟩ := bool_of (ChartP F)
  obtain ⟨b2, h2⟩ := bool_of (ChartP G)
  have T1 := fun u (h : Rd u A F) => (i_IsChart A ca F u hF h hca).mono (tells_bool h1)
  have T2 := fun u (h : Rd u B G) => (i_IsChart B cb G u hG h hcb).mono (tells_bool h2)
  have T1 := Lib.hid T1
  have T2 := Lib.hid T2
  have H1 := Lib.hid h1
  have H2 := Lib.hid h2
  clear h1 h2
  have g0 := ((Gw.refl w).alloc (.cells #[.slice A F.length ca, .slice B G.length cb, .int .i64 C, .slice D P.length cd] 31))
  cases b1 with
  | false =>
    have hno : Hid (¬TransP F G C P) := fun h => absurd (H1.out.2 h.1) (by decide)
    go_enter Try.func30, Try.ntmps30
    go_wp2_with fail
    refine (T1.out _ (rF.gw g0)).mono ?_
    rintro _ w2 ⟨rfl, hb2⟩
    dsimp only
    go_wp2_with fail
    go_ret
    exact .inr ⟨hno.out, rfl, g0.trans hb2⟩
  | true =>
    have n12 : F.length ≤ 12 := (H1.out.1 rfl).2.2
    obtain ⟨b4, h4⟩ := bool_of (MatchP P F.length)
    have T4 := fun u (h : Rd u D P) => (i_isMatching D cd P F.length u hP h n12).mono (tells_bool h4)
    have T4 := Lib.hid T4
    have H4 := Lib.hid h4
    clear h4
    cases b2 with
    | false =>
      have hno : Hid (¬TransP F G C P) := fun h => absurd (H2.out.2 h.2.1) (by decide)
      go_enter Try.func30, Try.ntmps30
      go_wp2_with fail
      refine (T1.out _ (rF.gw g0)).mono ?_
      rintro _ w2 ⟨rfl, hb2⟩
      have g2 := g0.trans hb2
      have hcc := hb2.cells
      dsimp only
      go_wp2_with fail
      refine (T2.out _ (rG.gw g2)).mono ?_
      rintro _ w3 ⟨rfl, hb3⟩
      dsimp only
      go_wp2_with fail
      go_ret
      exact .inr ⟨hno.out, rfl, g2.trans hb3⟩
    | true =>
      have c1 : Hid (ChartP F) := H1.out.1 rfl
      have c2 : Hid (ChartP G) := H2.out.1 rfl
      by_cases hl : F.length = G.length
      · have hle : ((F.length : Int) == (G.length : Int)) = true := by simp [hl]
        have HL := Lib.hid hl
        by_cases hC : InR C 1 64
        · have HC := Lib.hid hC
          clear hl hC
          go_enter Try.func30, Try.ntmps30
          go_wp2_with fail
          refine (T1.out _ (rF.gw g0)).mono ?_
          rintro _ w2 ⟨rfl, hb2⟩
          have g2 := g0.trans hb2
          have z1 := box_cell hb2 (j := 1) rfl
          dsimp only
          go_wp2_with fail
          refine (T2.out _ (rG.gw g2)).mono ?_
          rintro _ w3 ⟨rfl, hb3⟩
          have y0 := box_cell (hb2.trans hb3) (j := 0) rfl
          have y1 := box_cell (hb2.trans hb3) (j := 1) rfl
          have y2 := box_cell (hb2.trans hb3) (j := 2) rfl
          have y3 := box_cell (hb2.trans hb3) (j := 3) rfl
          dsimp only
          go_wp2_with fail
          refine (i_within _ _ _ _).mono ?_
          rintro _ w4 (⟨hp, rfl, rfl⟩ | ⟨hp, rfl, rfl⟩)
          case inr => exact absurd HC.out hp
          clear hp
          dsimp only
          go_wp2_with fail
          refine (T4.out _ (rP.gw (g2.trans hb3))).mono ?_
          rintro _ w5 ⟨rfl, hb5⟩
          dsimp only
          go_wp2_with fail
          go_ret
          exact tells_of ⟨fun h => ⟨c1.out, c2.out, HL.out, HC.out, H4.out.1 h⟩, fun h => H4.out.2 h.2.2.2.2⟩ ((g2.trans hb3).trans hb5)
        · have hno : Hid (¬TransP F G C P) := fun h => hC h.2.2.2.1
          have HC := Lib.hid hC
          clear hl hC
          go_enter Try.func30, Try.ntmps30
          go_wp2_with fail
          refine (T1.out _ (rF.gw g0)).mono ?_
          rintro _ w2 ⟨rfl, hb2⟩
          have g2 := g0.trans hb2
          have z1 := box_cell hb2 (j := 1) rfl
          dsimp only
          go_wp2_with fail
          refine (T2.out _ (rG.gw g2)).mono ?_
          rintro _ w3 ⟨rfl, hb3⟩
          have y0 := box_cell (hb2.trans hb3) (j := 0) rfl
          have y1 := box_cell (hb2.trans hb3) (j := 1) rfl
          have y2 := box_cell (hb2.trans hb3) (j := 2) rfl
          have y3 := box_cell (hb2.trans hb3) (j := 3) rfl
          dsimp only
          go_wp2_with fail
          refine (i_within _ _ _ _).mono ?_
          rintro _ w4 (⟨hp, rfl, rfl⟩ | ⟨hp, rfl, rfl⟩)
          case inl => exact absurd hp HC.out
          clear hp
          dsimp only
          go_wp2_with fail
          go_ret
          exact .inr ⟨hno.out, rfl, g2.trans hb3⟩
      · have hno : Hid (¬TransP F G C P) := fun h => hl h.2.2.1
        have hle : ((F.length : Int) == (G.length : Int)) = false := by simp; omega
        clear hl
        go_enter Try.func30, Try.ntmps30
        go_wp2_with fail
        refine (T1.out _ (rF.gw g0)).mono ?_
        rintro _ w2 ⟨rfl, hb2⟩
        have g2 := g0.trans hb2
        have z1 := box_cell hb2 (j := 1) rfl
        dsimp only
        go_wp2_with fail
        refine (T2.out _ (rG.gw g2)).mono ?_
        rintro _ w3 ⟨rfl, hb3⟩
        have y0 := box_cell (hb2.trans hb3) (j := 0) rfl
        have y1 := box_cell (hb2.trans hb3) (j := 1) rfl
        have y2 := box_cell (hb2.trans hb3) (j := 2) rfl
        have y3 := box_cell (hb2.trans hb3) (j := 3) rfl
        dsimp only
        go_wp2_with fail
        go_ret
        exact .inr ⟨hno.out, rfl, g2.trans hb3⟩
end Go.Proofs.Ytphfaeefjcdjjaa
