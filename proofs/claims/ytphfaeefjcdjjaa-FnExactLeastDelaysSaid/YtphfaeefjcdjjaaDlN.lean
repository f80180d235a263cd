/-
  LeastDelays, the program's.
-/
import Derived.Test.YtphfaeefjcdjjaaDlM
namespace Go.Proofs.Ytphfaeefjcdjjaa
open Go.RowKit Go.ChangeShapes Go.WideShapes
set_option linter.unusedVariables false

open Classical in
/-- The least delays of a transition. -/
noncomputable def leastF (F G : List (Int × Int)) (C : Int) (P : List Int) (least : Int) : List Int × Int × Bool :=
  if RepT F G C P ∧ InR least 0 80 then
    match bestD (clF (movesL F G C P) least P.length) P.length with
    | some (o, e) => (o, e, true)
    | none => ([], 0, false)
  else ([], 0, false)
theorem leastF_bad {F G : List (Int × Int)} {C : Int} {P : List Int} {least : Int} (h : ¬(RepT F G C P ∧ InR least 0 80)) : leastF F G C P least = ([], 0, false) := by unfold leastF; rw [if_neg h]
theorem leastF_none {F G : List (Int × Int)} {C : Int} {P : List Int} {least : Int} (h : RepT F G C P ∧ InR least 0 80) (hb : bestD (clF (movesL F G C P) least P.length) P.length = none) : leastF F G C P least = ([], 0, false) := by
  unfold leastF; rw [if_pos h, hb]
theorem leastF_some {F G : List (Int × Int)} {C : Int} {P : List Int} {least : Int} {o : List Int} {e : Int} (h : RepT F G C P ∧ InR least 0 80) (hb : bestD (clF (movesL F G C P) least P.length) P.length = some (o, e)) : leastF F G C P least = (o, e, true) := by
  unfold leastF; rw [if_pos h, hb]
theorem leastF_len (F G : List (Int × Int)) (C : Int) (P : List Int) (least : Int) : (leastF F G C P least).1.length ≤ 1048576 := by
  by_cases h : RepT F G C P ∧ InR least 0 80
  · cases hb : bestD (clF (movesL F G C P) least P.length) P.length with
    | none => rw [leastF_none h hb]; simp
    | some x =>
      obtain ⟨o, e⟩ := x
      rw [leastF_some h hb]
      have h1 := goD_len hb
      have h2 := h.1.1.2.2.2.2.2
      have h3 := h.1.2.2
      dsimp only
      omega
  · rw [leastF_bad h]; simp
theorem ret_oeb {k : List Int × Int × Bool} {A : Option Addr} {c : Nat} {l : List Int} {e : Int} {b : Bool} (h : k = (l, e, b)) : Ending.returned (.tuple #[.slice A l.length c, .int .i64 e, .bool b]) = .returned (.tuple #[.slice A k.1.length c, .int .i64 k.2.1, .bool k.2.2]) := by rw [h]

set_option maxHeartbeats 4000000 in
set_option maxRecDepth 100000 in
theorem i_LeastDelays (A : Option Addr) (ca : Nat) (F : List (Int × Int)) (B : Option Addr) (cb : Nat) (G : List (Int × Int)) (C : Int) (D : Option Addr) (cd : Nat) (P : List Int) (least : Int) (w : World) (hF : F.length ≤ 1048576) (rF : Rd w A F) (hca : F.length ≤ ca) (hG : G.length ≤ 1048576) (rG : Rd w B G) (hcb : G.length ≤ cb) (hP : P.length ≤ 1048576) (rP : Rd w D P) (hcd : P.length ≤ cd) :
    Calls Try.prog 7 #[.agg #[.slice A F.length ca, .slice B G.length cb, .int .i64 C, .slice D P.length cd], .int .i64 least] w fun e w' => ∃ A c, e = .returned (.tuple #[.slice A (leastF F G C P least).1.length c, .int .i64 (leastF F G C P least).2.1, .bool (leastF F G C P least).2.2]) ∧
      w'.ownsRow w.heap.size 3 1 (.slice A (leastF F G C P least).1.length c) (leastF F G C P least).1.length (flat (leastF F G C P least).1) ∧ Gw w w' := by
  have g0 := Lib.hid ((Gw.refl w).alloc (.cells #[.slice A F.length ca, .slice B G.length cb, .int .i64 C, .slice D P.length cd] 31))
  have qN : ∀ (w : World) (a : Option Addr) (n c : Nat), (binOp .neq 23 (.slice a n c) (.slice none 0 0)).run Try.prog w = .ok (.bool (!a.isNone)) w := fun w a n c => run_neq_slice_nil w _ _ a n c Try.underlying23
  have rF := Lib.hid rF
  have rG := Lib.hid rG
  have rP := Lib.hid rP
  go_enter Try.func7, Try.ntmps7
  go_wp2_with fail
  refine (i_isRepaired A ca F B cb G C D cd P _ hF (rF.out.gw g0.out) hca hG (rG.out.gw g0.out) hcb hP (rP.out.gw g0.out) hcd).mono ?_
  rintro _ w1 (⟨hp, rfl, hb1⟩ | ⟨hp, rfl, hb1⟩)
  case inr =>
    have hno := Lib.hid (leastF_bad (least := least) (fun h => hp h.1))
    clear hp
    dsimp only
    go_wp2_with fail
    go_ret3
    exact ⟨none, 0, ret_oeb (l := []) hno.out, by rw [hno.out]; exact World.ownsRow_nil _ _ _ _, g0.out.trans hb1⟩
  have HT := Lib.hid hp
  have hG1 := Lib.hid (g0.out.trans hb1)
  have y0 := box_cell hb1 (j := 0) rfl
  have y1 := box_cell hb1 (j := 1) rfl
  have y2 := box_cell hb1 (j := 2) rfl
  have y3 := box_cell hb1 (j := 3) rfl
  clear hp
  dsimp only
  go_wp2_with fail
  refine (i_isLeast _ _).mono ?_
  rintro _ w2 (⟨hq, rfl, rfl⟩ | ⟨hq, rfl, rfl⟩)
  case inr =>
    have hno := Lib.hid (leastF_bad (F := F) (G := G) (C := C) (P := P) (least := least) (fun h => hq h.2))
    clear hq
    dsimp only
    go_wp2_with fail
    go_ret3
    exact ⟨none, 0, ret_oeb (l := []) hno.out, by rw [hno.out]; exact World.ownsRow_nil _ _ _ _, hG1.out⟩
  have HQ := Lib.hid hq
  clear hq
  dsimp only
  go_wp2_with fail
  refine (i_leastDelays A ca F B cb G C D cd P least _ (rF.out.gw hG1.out) (rG.out.gw hG1.out) (rP.out.gw hG1.out) HT.out HQ.out).mono ?_
  rintro _ w3 ⟨v, s, rfl, hst, hb3⟩
  have hG3 := Lib.hid (hG1.out.trans hb3)
  have hst := hst.lower hG1.out.size
  rcases hst with ⟨h1, rfl, rfl⟩ | ⟨o, h, c, h1, h2, h3, h4, rfl, h5⟩
  · have hfin := Lib.hid (leastF_none ⟨HT.out, HQ.out⟩ h1)
    clear h1
    dsimp only
    go_wp2_with fail
    go_ret3
    exact ⟨none, 0, ret_oeb (l := []) hfin.out, by rw [hfin.out]; exact World.ownsRow_nil _ _ _ _, hG3.out⟩
  · have hfin := Lib.hid (leastF_some ⟨HT.out, HQ.out⟩ h1)
    have H5 := Lib.hid h5
    have H4 := Lib.hid h4
    clear h1 h5 h4
    dsimp only
    go_wp2_with fail
    go_ret3
    exact ⟨some ⟨h, 0, none⟩, c, by rw [← H4.out]; exact ret_oeb hfin.out, by rw [hfin.out]; have := H5.out; rw [← H4.out] at this; exact this, hG3.out⟩
end Go.Proofs.Ytphfaeefjcdjjaa
