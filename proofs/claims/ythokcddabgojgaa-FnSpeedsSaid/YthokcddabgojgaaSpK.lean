/-
  Contracts and plain facts of the law of speeds.
-/
import Derived.Test.YthokcddabgojgaaSpJ
import Derived.Test.YthokcddabgojgaaCount
import Derived.Test.YthokcddabgojgaaFast
import Derived.BigQuiet
namespace Go.Proofs.Ythokcddabgojgaa
open Go.RowKit Go.ChangeShapes Go.WideShapes
set_option linter.unusedVariables false

theorem i_SquareOf (a b c d : Int) (w : World) (h : SpotP a b) (h' : SpotP c d) :
    Calls Try.prog 18 #[.agg #[.int .i64 a, .int .i64 b], .agg #[.int .i64 c, .int .i64 d]] w fun e w' => e = .returned (.tuple #[.int .i64 (sq a b c d), .bool true]) ∧ Gw w w' := by
  have H := Lib.hid h
  have H' := Lib.hid h'
  clear h h'
  have bA := (BoxR.new w #[.int .i64 a, .int .i64 b] 24).gw ((Gw.refl _).alloc (.cells #[.int .i64 c, .int .i64 d] 24))
  have bB := BoxR.new (w.alloc (.cells #[.int .i64 a, .int .i64 b] 24)) #[.int .i64 c, .int .i64 d] 24
  simp only [World.size_alloc] at bB
  have hG0 : Gw w ((w.alloc (.cells #[.int .i64 a, .int .i64 b] 24)).alloc (.cells #[.int .i64 c, .int .i64 d] 24)) := ((Gw.refl w).alloc _).alloc _
  go_enter Try.func18, Try.ntmps18
  go_wp2_with fail
  refine (i_IsSpot _ _ _).mono ?_
  rintro _ w1 (⟨hp, rfl, hb1⟩ | ⟨hp, rfl, hb1⟩)
  case inr => exact absurd H.out hp
  clear hp
  have bA := bA.gw hb1
  have bB := bB.gw hb1
  have z0 := bB.cell 0 rfl
  have z1 := bB.cell 1 rfl
  go_wp2_with fail
  refine (i_IsSpot _ _ _).mono ?_
  rintro _ w2 (⟨hp, rfl, hb2⟩ | ⟨hp, rfl, hb2⟩)
  case inr => exact absurd H'.out hp
  clear hp z0 z1
  have bA := bA.gw hb2
  have bB := bB.gw hb2
  have z0 := bA.cell 0 rfl
  have z1 := bA.cell 1 rfl
  have z2 := bB.cell 0 rfl
  have z3 := bB.cell 1 rfl
  go_wp2_with fail
  refine (i_squareOf _ _ _ _ _ H.out H'.out).mono ?_
  rintro _ w3 ⟨rfl, hb3⟩
  go_wp2_with fail
  go_ret2
  exact ⟨rfl, ((hG0.trans hb1).trans hb2).trans hb3⟩
theorem i_WithinStep (a b c d n s : Int) (w : World) (h : MoveP a b c d n) (hs : 1 ≤ s ∧ s ≤ 24) :
    Calls Try.prog 22 #[.agg #[.int .i64 a, .int .i64 b, .int .i64 c, .int .i64 d, .int .i64 n], .int .i64 s] w fun e w' => e = .returned (.tuple #[.bool (decide (WithinP a b c d n s)), .bool true]) ∧ Gw w w' := by
  have H := Lib.hid h
  have Hs := Lib.hid hs
  clear h hs
  have bx := BoxR.new w #[.int .i64 a, .int .i64 b, .int .i64 c, .int .i64 d, .int .i64 n] 39
  have hG0 : Gw w (w.alloc (.cells #[.int .i64 a, .int .i64 b, .int .i64 c, .int .i64 d, .int .i64 n] 39)) := (Gw.refl w).alloc _
  go_enter Try.func22, Try.ntmps22
  go_wp2_with fail
  refine (i_IsMove _ _ _ _ _ _).mono ?_
  rintro _ w1 (⟨hp, rfl, hb1⟩ | ⟨hp, rfl, hb1⟩)
  case inr => exact absurd H.out hp
  clear hp
  have bx := bx.gw hb1
  have z0 := bx.cell 0 rfl
  have z1 := bx.cell 1 rfl
  have z2 := bx.cell 2 rfl
  have z3 := bx.cell 3 rfl
  have z4 := bx.cell 4 rfl
  go_wp2_with fail
  refine (i_within _ _ _ _).mono ?_
  rintro _ w2 (⟨hp, rfl, rfl⟩ | ⟨hp, rfl, rfl⟩)
  case inr => exact absurd Hs.out hp
  clear hp
  go_wp2_with fail
  refine (i_withinStep _ _ _ _ _ _ _ H.out.1 H.out.2.1 H.out.2.2 Hs.out).mono ?_
  rintro _ w3 (⟨hp, rfl, hb3⟩ | ⟨hp, rfl, hb3⟩)
  · have e : decide (WithinP a b c d n s) = true := decide_eq_true hp
    have E := Lib.hid e
    clear hp e
    go_wp2_with fail
    go_ret2
    exact ⟨by rw [E.out]; rfl, (hG0.trans hb1).trans hb3⟩
  · have e : decide (WithinP a b c d n s) = false := decide_eq_false hp
    have E := Lib.hid e
    clear hp e
    go_wp2_with fail
    go_ret2
    exact ⟨by rw [E.out]; rfl, (hG0.trans hb1).trans hb3⟩
theorem s_WithinStep (a b c d n s : Int) (w : World) (h : MoveP a b c d n) (hs : 1 ≤ s ∧ s ≤ 24) :
    Calls Try.prog 23 #[.agg #[.int .i64 a, .int .i64 b, .int .i64 c, .int .i64 d, .int .i64 n], .int .i64 s] w fun e w' => e = .returned (.tuple #[.bool (decide (WithinP a b c d n s)), .bool true]) ∧ Gw w w' := by
  have H := Lib.hid h
  have Hs := Lib.hid hs
  clear h hs
  have bx := BoxR.new w #[.int .i64 a, .int .i64 b, .int .i64 c, .int .i64 d, .int .i64 n] 39
  have hG0 : Gw w (w.alloc (.cells #[.int .i64 a, .int .i64 b, .int .i64 c, .int .i64 d, .int .i64 n] 39)) := (Gw.refl w).alloc _
  go_enter Try.func23, Try.ntmps23
  go_wp2_with fail
  refine (s_mvGood _ _ _ _ _ _).mono ?_
  rintro _ w1 (⟨hp, rfl, hb1⟩ | ⟨hp, rfl, hb1⟩)
  case inr => exact absurd H.out hp
  clear hp
  have bx := bx.gw hb1
  have z0 := bx.cell 0 rfl
  have z1 := bx.cell 1 rfl
  have z2 := bx.cell 2 rfl
  have z3 := bx.cell 3 rfl
  have z4 := bx.cell 4 rfl
  go_wp2_with fail
  refine (s_mvStep _ _).mono ?_
  rintro _ w2 (⟨hp, rfl, rfl⟩ | ⟨hp, rfl, rfl⟩)
  case inr => exact absurd Hs.out hp
  clear hp
  go_wp2_with fail
  refine (s_mvWithin _ _ _ _ _ _ _ H.out.1 H.out.2.1 H.out.2.2 Hs.out).mono ?_
  rintro _ w3 (⟨hp, rfl, hb3⟩ | ⟨hp, rfl, hb3⟩)
  · have e : decide (WithinP a b c d n s) = true := decide_eq_true hp
    have E := Lib.hid e
    clear hp e
    go_wp2_with fail
    go_ret2
    exact ⟨by rw [E.out]; rfl, (hG0.trans hb1).trans hb3⟩
  · have e : decide (WithinP a b c d n s) = false := decide_eq_false hp
    have E := Lib.hid e
    clear hp e
    go_wp2_with fail
    go_ret2
    exact ⟨by rw [E.out]; rfl, (hG0.trans hb1).trans hb3⟩
theorem i_LastsFrom (A : Option Addr) (c : Nat) (l : List (Int × Int)) (f t : Int) (w : World) (hM : MusicP l) (h0 : 0 ≤ f) (h1 : f ≤ t) (h2 : t ≤ sumC l) (hA : Rd w A l) :
    Calls Try.prog 17 #[.slice A l.length c, .int .i64 f, .int .i64 t] w fun e w' => e = .returned (.tuple #[.int .i64 (timeF l t - timeF l f), .bool true]) ∧ Gw w w' := by
  have hsb := sumC_bd l hM.1
  have h40 := hM.2.2
  have hl : l.length ≤ 1048576 := by omega
  have b1 := timeF_bd l hM.1 t (by omega)
  have b2 := timeF_bd l hM.1 f h0
  have wt : IntKind.i64.wrap (timeF l t - timeF l f) = timeF l t - timeF l f := IntWalk.i64_in _ (by omega)
  have HM := Lib.hid hM
  have HA := Lib.hid hA
  obtain ⟨q, hq⟩ : ∃ q, sumC l = q := ⟨_, rfl⟩
  have Hq := Lib.hid hq
  rw [hq] at hsb h2
  have d1 : decide (f < 0) = false := decide_eq_false (by omega)
  have d2 : decide (t < f) = false := decide_eq_false (by omega)
  have d3 : decide (q < t) = false := decide_eq_false (by omega)
  clear hq hM hA b1 b2
  go_enter Try.func17, Try.ntmps17
  go_wp2_with fail
  refine (i_IsMusic _ _ _ _ hl HA.out).mono ?_
  rintro _ w1 (⟨hp, rfl, hb1⟩ | ⟨hp, rfl, hb1⟩)
  case inr => exact absurd HM.out hp
  clear hp
  go_wp2_with fail
  refine (i_countsOf _ _ _ _ (by omega) HM.out.1 (HA.out.gw hb1)).mono ?_
  rw [Hq.out]
  rintro _ w2 ⟨rfl, hb2⟩
  have hg2 := hb1.trans hb2
  go_wp2_with fail
  refine (i_timeOf _ _ _ _ _ (by omega) HM.out.1 (by omega) (HA.out.gw hg2)).mono ?_
  rintro _ w3 ⟨rfl, hb3⟩
  have hg3 := hg2.trans hb3
  go_wp2_with fail
  refine (i_timeOf _ _ _ _ _ (by omega) HM.out.1 (by omega) (HA.out.gw hg3)).mono ?_
  rintro _ w4 ⟨rfl, hb4⟩
  go_wp2_with fail
  go_ret2
  exact ⟨rfl, hg3.trans hb4⟩
theorem s_MeasureAt (A : Option Addr) (cap : Nat) (l : List (Int × Int)) (m : Int) (w : World) (hM : MusicP l) (hm0 : 0 ≤ m) (hm : m < sumC l) (hA : Rd w A l) :
    Calls Try.prog 19 #[.slice A l.length cap, .int .i64 m] w fun e w' => e = .returned (.tuple #[.int .i64 (idxF l m), .int .i64 (remF l m), .bool true]) ∧ Gw w w' := by
  have hsb := sumC_bd l hM.1
  have h40 := hM.2.2
  have hl : l.length ≤ 1048576 := by omega
  have HM := Lib.hid hM
  have HA := Lib.hid hA
  have Hm := Lib.hid hm
  obtain ⟨q, hq⟩ : ∃ q, sumC l = q := ⟨_, rfl⟩
  have Hq := Lib.hid hq
  rw [hq] at hsb hm
  have wq : IntKind.i64.wrap (q - 1) = q - 1 := IntWalk.i64_in _ (by omega)
  clear hq hM hA
  have T : Calls Try.prog 63 #[.slice A l.length cap, .int .i64 m] w (fun e w' => e = .returned (.bool true) ∧ Gw w w') := by
    go_enter Try.func63, Try.ntmps63
    go_wp2_with fail
    refine (s_muGood _ _ _ _ hl HA.out).mono ?_
    rintro _ w1 (⟨hp, rfl, hb1⟩ | ⟨hp, rfl, hb1⟩)
    case inr => exact absurd HM.out hp
    clear hp
    go_wp2_with fail
    refine (s_muCounts _ _ _ _ (by omega) HM.out.1 (HA.out.gw hb1)).mono ?_
    rw [Hq.out]
    rintro _ w2 ⟨rfl, hb2⟩
    go_wp2_with fail
    refine (s_l1In _ _ _ _).mono ?_
    rintro _ w3 (⟨hp, rfl, rfl⟩ | ⟨hp, rfl, rfl⟩)
    case inr => exact absurd (show InR m 0 (q - 1) from ⟨hm0, by omega⟩) hp
    clear hp
    go_wp2_with fail
    go_ret
    exact ⟨rfl, hb1.trans hb2⟩
  have HT := Lib.hid T
  clear T
  go_enter Try.func19, Try.ntmps19
  go_wp2_with fail
  refine HT.out.mono ?_
  rintro _ w1 ⟨rfl, hb1⟩
  go_wp2_with fail
  refine (s_muAt _ _ _ _ _ HM.out hm0 (by omega) Hm.out (HA.out.gw hb1)).mono ?_
  rintro _ w2 ⟨rfl, hb2⟩
  go_wp2_with fail
  go_ret3
  exact ⟨rfl, hb1.trans hb2⟩
end Go.Proofs.Ythokcddabgojgaa
