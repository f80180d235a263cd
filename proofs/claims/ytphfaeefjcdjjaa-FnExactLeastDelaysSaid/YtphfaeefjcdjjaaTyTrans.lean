/-
  Contracts of what the law does with a transition: its size, copies, comparisons, marks.
-/
import Derived.Test.YtphfaeefjcdjjaaTySpot
import Derived.Test.YtphfaeefjcdjjaaTyInt
import Derived.Test.YtphfaeefjcdjjaaTell
import Derived.Test.YtphfaeefjcdjjaaDlJ
namespace Go.Proofs.Ytphfaeefjcdjjaa
open Go.RowKit Go.ChangeShapes Go.WideShapes
set_option linter.unusedVariables false

theorem BoxR.other {w : World} {b : Nat} {cs : Array Value} {t : TypeId} {g j : Nat} {v : Value} (h : BoxR w b cs t) (hne : g ≠ b) : BoxR (w.setCell ⟨g, j, none⟩ v) b cs t := by
  unfold BoxR at *
  rw [Below.heap_setCell w ⟨g, j, none⟩ v b (fun e => hne e.symm)]
  exact h

theorem BoxR.grown {w w' : World} {b g : Nat} {cs : Array Value} {t : TypeId} (h : BoxR w b cs t) (hg : w.grownBy w' (some g)) (hne : ¬g = b) : BoxR w' b cs t := by
  unfold BoxR at *
  rw [hg.block b (Array.getElem?_eq_some_iff.1 h).1 (by simp; omega)]
  exact h

set_option maxHeartbeats 2000000 in
theorem l_szTransition (A : Option Addr) (ca f : Nat) (B : Option Addr) (cb g : Nat) (C : Int) (D : Option Addr) (cd p : Nat) (w : World) (hf : f ≤ 9223372036854775807) (hg : g ≤ 9223372036854775807) (hp : p ≤ 9223372036854775807) :
    Calls Try.prog 4 #[.agg #[.slice A f ca, .slice B g cb, .int .i64 C, .slice D p cd], .int .i64 1048576] w fun e w' => e = .returned (.int .i64 (if f + g + p ≤ 1048576 then (1048576 - f - g - p : Int) else -1)) ∧ Gw w w' := by
  by_cases h1 : f ≤ 1048576
  · have T1 : (if (1048576 : Int) < (f : Int) then (-1 : Int) else 1048576 - f) = 1048576 - f := if_neg (by omega)
    by_cases h2 : f + g ≤ 1048576
    · have T2 : (if (1048576 : Int) - f < (g : Int) then (-1 : Int) else 1048576 - f - g) = 1048576 - f - g := if_neg (by omega)
      by_cases h3 : f + g + p ≤ 1048576
      · have T3 : (if (1048576 : Int) - f - g < (p : Int) then (-1 : Int) else 1048576 - f - g - p) = 1048576 - f - g - p := if_neg (by omega)
        go_enter Try.func4, Try.ntmps4
        go_wp2_with (first | (go_at_call 13; refine (l_szSpotS _ _ _ _ _ (by omega) (by omega)).mono ?_; first | (rw [T1]; rintro e w' ⟨rfl, rfl⟩) | (rw [T2]; rintro e w' ⟨rfl, rfl⟩)) | (go_at_call 14; refine (l_szIntS _ _ _ _ _ (by omega) (by omega)).mono ?_; rw [T3]; rintro e w' ⟨rfl, rfl⟩))
        go_ret
        exact ⟨ret_int (by first | rfl | omega), by (repeat (first | with_reducible exact Gw.refl _ | with_reducible assumption | ((with_reducible refine Gw.set ?_ ?_ _); rotate_left; (focus (first | (simp; done) | (simp; omega) | omega))) | with_reducible refine Gw.alloc ?_ _ | with_reducible refine Gw.drew ?_ | with_reducible refine Gw.drewN ?_ _ | (refine Gw.trans ?_ (by with_reducible assumption))))⟩
      · have T3 : (if (1048576 : Int) - f - g < (p : Int) then (-1 : Int) else 1048576 - f - g - p) = -1 := if_pos (by omega)
        go_enter Try.func4, Try.ntmps4
        go_wp2_with (first | (go_at_call 13; refine (l_szSpotS _ _ _ _ _ (by omega) (by omega)).mono ?_; first | (rw [T1]; rintro e w' ⟨rfl, rfl⟩) | (rw [T2]; rintro e w' ⟨rfl, rfl⟩)) | (go_at_call 14; refine (l_szIntS _ _ _ _ _ (by omega) (by omega)).mono ?_; rw [T3]; rintro e w' ⟨rfl, rfl⟩))
        go_ret
        exact ⟨ret_int (by first | rfl | omega), by (repeat (first | with_reducible exact Gw.refl _ | with_reducible assumption | ((with_reducible refine Gw.set ?_ ?_ _); rotate_left; (focus (first | (simp; done) | (simp; omega) | omega))) | with_reducible refine Gw.alloc ?_ _ | with_reducible refine Gw.drew ?_ | with_reducible refine Gw.drewN ?_ _ | (refine Gw.trans ?_ (by with_reducible assumption))))⟩
    · have T2 : (if (1048576 : Int) - f < (g : Int) then (-1 : Int) else 1048576 - f - g) = -1 := if_pos (by omega)
      go_enter Try.func4, Try.ntmps4
      go_wp2_with (first | (go_at_call 13; refine (l_szSpotS _ _ _ _ _ (by omega) (by omega)).mono ?_; first | (rw [T1]; rintro e w' ⟨rfl, rfl⟩) | (rw [T2]; rintro e w' ⟨rfl, rfl⟩)))
      go_ret
      exact ⟨ret_int (by first | rfl | omega), by (repeat (first | with_reducible exact Gw.refl _ | with_reducible assumption | ((with_reducible refine Gw.set ?_ ?_ _); rotate_left; (focus (first | (simp; done) | (simp; omega) | omega))) | with_reducible refine Gw.alloc ?_ _ | with_reducible refine Gw.drew ?_ | with_reducible refine Gw.drewN ?_ _ | (refine Gw.trans ?_ (by with_reducible assumption))))⟩
  · have T1 : (if (1048576 : Int) < (f : Int) then (-1 : Int) else 1048576 - f) = -1 := if_pos (by omega)
    go_enter Try.func4, Try.ntmps4
    go_wp2_with (first | (go_at_call 13; refine (l_szSpotS _ _ _ _ _ (by omega) (by omega)).mono ?_; first | (rw [T1]; rintro e w' ⟨rfl, rfl⟩)))
    go_ret
    exact ⟨ret_int (by first | rfl | omega), by (repeat (first | with_reducible exact Gw.refl _ | with_reducible assumption | ((with_reducible refine Gw.set ?_ ?_ _); rotate_left; (focus (first | (simp; done) | (simp; omega) | omega))) | with_reducible refine Gw.alloc ?_ _ | with_reducible refine Gw.drew ?_ | with_reducible refine Gw.drewN ?_ _ | (refine Gw.trans ?_ (by with_reducible assumption))))⟩

set_option maxHeartbeats 2000000 in
theorem l_toTransition (A : Option Addr) (ca : Nat) (F : List (Int × Int)) (B : Option Addr) (cb : Nat) (G : List (Int × Int)) (C : Int) (D : Option Addr) (cd : Nat) (P : List Int) (w : World) (hF : F.length ≤ 1048576) (rF : Rd w A F) (hG : G.length ≤ 1048576) (rG : Rd w B G) (hP : P.length ≤ 1048576) (rP : Rd w D P) :
    Calls Try.prog 6 #[.agg #[.slice A F.length ca, .slice B G.length cb, .int .i64 C, .slice D P.length cd]] w fun e w' => ∃ gf gg gp, e = .returned (.agg #[.slice (some ⟨gf, 0, none⟩) F.length F.length, .slice (some ⟨gg, 0, none⟩) G.length G.length, .int .i64 C, .slice (some ⟨gp, 0, none⟩) P.length P.length]) ∧
      w.heap.size ≤ gf ∧ gf < gg ∧ gg < gp ∧ gp < w'.heap.size ∧ w'.ownsRow w.heap.size 60 2 (.slice (some ⟨gf, 0, none⟩) F.length F.length) F.length (flat F) ∧ w'.ownsRow w.heap.size 60 2 (.slice (some ⟨gg, 0, none⟩) G.length G.length) G.length (flat G) ∧ w'.ownsRow w.heap.size 3 1 (.slice (some ⟨gp, 0, none⟩) P.length P.length) P.length (flat P) ∧ Gw w w' := by
  go_enter Try.func6, Try.ntmps6
  have rF := Lib.hid rF
  have rG := Lib.hid rG
  have rP := Lib.hid rP
  go_wp2_with fail
  obtain ⟨W0, hW0⟩ : ∃ W0 : World, W0 = (((w.alloc (.cells #[.slice A F.length ca, .slice B G.length cb, .int .i64 C, .slice D P.length cd] 25)).alloc (.cells #[.slice none 0 0, .slice none 0 0, .int .i64 0, .slice none 0 0] 31)).alloc (.cells #[.slice none 0 0, .slice none 0 0, .int .i64 0, .slice none 0 0] 31)) := ⟨_, rfl⟩
  rw [← hW0]
  have G0 : Gw w W0 := by rw [hW0]; exact (((Gw.refl w).alloc _).alloc _).alloc _
  have b1 : BoxR W0 w.heap.size #[.slice A F.length ca, .slice B G.length cb, .int .i64 C, .slice D P.length cd] 25 := by
    rw [hW0]; exact (BoxR.new w _ _).gw (((Gw.refl _).alloc _).alloc _)
  have b2 : BoxR W0 (w.heap.size + 1) #[.slice none 0 0, .slice none 0 0, .int .i64 0, .slice none 0 0] 31 := by
    have := (BoxR.new (w.alloc (.cells #[.slice A F.length ca, .slice B G.length cb, .int .i64 C, .slice D P.length cd] 25)) #[.slice none 0 0, .slice none 0 0, .int .i64 0, .slice none 0 0] 31).gw ((Gw.refl _).alloc (.cells #[.slice none 0 0, .slice none 0 0, .int .i64 0, .slice none 0 0] 31))
    rw [hW0]; simpa using this
  have b3 : BoxR W0 (w.heap.size + 1 + 1) #[.slice none 0 0, .slice none 0 0, .int .i64 0, .slice none 0 0] 31 := by
    have := BoxR.new ((w.alloc (.cells #[.slice A F.length ca, .slice B G.length cb, .int .i64 C, .slice D P.length cd] 25)).alloc (.cells #[.slice none 0 0, .slice none 0 0, .int .i64 0, .slice none 0 0] 31)) #[.slice none 0 0, .slice none 0 0, .int .i64 0, .slice none 0 0] 31
    rw [hW0]; simpa using this
  have hz0 : W0.heap.size = w.heap.size + 3 := by rw [hW0]; simp
  clear hW0
  -- From
  refine (l_toSpotS A ca F W0 hF (rF.out.gw G0)).mono ?_
  rintro _ w1 ⟨g1, rfl, hg1, o1, hb1⟩
  have b3a := b3.gw hb1
  have z3 := b3a.cell 0 rfl
  have y3 := b3a.free 0
  have r1 := grow_set1 (World.grownBy.refl w1 (some (w.heap.size + 1 + 1))) 0 (.slice (some ⟨g1, 0, none⟩) F.length F.length)
  have O1 := Lib.hid (own_box o1 b3a (by decide) r1)
  have B1 := Lib.hid ((b1.gw hb1).other (g := w.heap.size + 1 + 1) (j := 0) (v := .slice (some ⟨g1, 0, none⟩) F.length F.length) (by omega))
  have B2 := Lib.hid ((b2.gw hb1).other (g := w.heap.size + 1 + 1) (j := 0) (v := .slice (some ⟨g1, 0, none⟩) F.length F.length) (by omega))
  have B3 := Lib.hid (b3a.set 0 (.slice (some ⟨g1, 0, none⟩) F.length F.length))
  have G1 := Lib.hid ((G0.trans hb1).set (p := ⟨w.heap.size + 1 + 1, 0, none⟩) (by show w.heap.size ≤ w.heap.size + 1 + 1; omega) (.slice (some ⟨g1, 0, none⟩) F.length F.length))
  have x1 := B1.out.cell 1 rfl
  have lo1 := (o1.lt g1 rfl).2
  clear r1 o1 b3a b1 b2 b3 hb1 G0
  have hs1 : (w1.setCell ⟨w.heap.size + 1 + 1, 0, none⟩ (.slice (some ⟨g1, 0, none⟩) F.length F.length)).heap.size = w1.heap.size := by simp
  dsimp only
  go_wp2_with fail
  generalize w1.setCell ⟨w.heap.size + 1 + 1, 0, none⟩ (.slice (some ⟨g1, 0, none⟩) F.length F.length) = W1 at *
  -- To
  refine (l_toSpotS B cb G W1 hG (rG.out.gw G1.out)).mono ?_
  rintro _ w2 ⟨g2, rfl, hg2, o2, hb2⟩
  have b3a := B3.out.gw hb2
  have z3 := b3a.cell 1 rfl
  have y3 := b3a.free 1
  have r2 := grow_set1 (World.grownBy.refl w2 (some (w.heap.size + 1 + 1))) 1 (.slice (some ⟨g2, 0, none⟩) G.length G.length)
  have b3b := b3a.set 1 (.slice (some ⟨g2, 0, none⟩) G.length G.length)
  have z4 := b3b.cell 2 rfl
  have y4 := b3b.free 2
  have r3 := grow_set1 r2 2 (.int .i64 C)
  have O2 := Lib.hid (own_box o2 b3a (by decide) r3)
  have O1 := Lib.hid (own_box (own_gw O1.out hb2) b3a (by decide) r3)
  have b1b := (B1.out.gw hb2).other (g := w.heap.size + 1 + 1) (j := 1) (v := .slice (some ⟨g2, 0, none⟩) G.length G.length) (by omega)
  have x2 := b1b.cell 2 rfl
  have B1 := Lib.hid (b1b.other (g := w.heap.size + 1 + 1) (j := 2) (v := .int .i64 C) (by omega))
  have B2 := Lib.hid (((B2.out.gw hb2).other (g := w.heap.size + 1 + 1) (j := 1) (v := .slice (some ⟨g2, 0, none⟩) G.length G.length) (by omega)).other (g := w.heap.size + 1 + 1) (j := 2) (v := .int .i64 C) (by omega))
  have B3 := Lib.hid (b3b.set 2 (.int .i64 C))
  have G2 := Lib.hid (((G1.out.trans hb2).set (p := ⟨w.heap.size + 1 + 1, 1, none⟩) (by show w.heap.size ≤ w.heap.size + 1 + 1; omega) (.slice (some ⟨g2, 0, none⟩) G.length G.length)).set (p := ⟨w.heap.size + 1 + 1, 2, none⟩) (by show w.heap.size ≤ w.heap.size + 1 + 1; omega) (.int .i64 C))
  have x3 := B1.out.cell 3 rfl
  have lo2 := (o2.lt g2 rfl).2
  have hs2 : ((w2.setCell ⟨w.heap.size + 1 + 1, 1, none⟩ (.slice (some ⟨g2, 0, none⟩) G.length G.length)).setCell ⟨w.heap.size + 1 + 1, 2, none⟩ (.int .i64 C)).heap.size = w2.heap.size := by simp
  have hsz2 := hb2.size
  have hw1 := G1.out.size
  clear r2 r3 o2 b3a b3b b1b hb2 G1 x1
  dsimp only
  go_wp2_with fail
  generalize (w2.setCell ⟨w.heap.size + 1 + 1, 1, none⟩ (.slice (some ⟨g2, 0, none⟩) G.length G.length)).setCell ⟨w.heap.size + 1 + 1, 2, none⟩ (.int .i64 C) = W2 at *
  -- Places
  refine (l_toIntS D cd P W2 hP (rP.out.gw G2.out)).mono ?_
  rintro _ w4 ⟨g4, rfl, hg4, o4, hb4⟩
  have b3a := B3.out.gw hb4
  have z3 := b3a.cell 3 rfl
  have y3 := b3a.free 3
  have r2 := grow_set1 (World.grownBy.refl w4 (some (w.heap.size + 1 + 1))) 3 (.slice (some ⟨g4, 0, none⟩) P.length P.length)
  have O4 := own_box o4 b3a (by decide) r2
  have O2 := own_box (own_gw O2.out hb4) b3a (by decide) r2
  have O1 := own_box (own_gw O1.out hb4) b3a (by decide) r2
  have b2 := (B2.out.gw hb4).other (g := w.heap.size + 1 + 1) (j := 3) (v := .slice (some ⟨g4, 0, none⟩) P.length P.length) (by omega)
  have b3 := b3a.set 3 (.slice (some ⟨g4, 0, none⟩) P.length P.length)
  have G4 := (G2.out.trans hb4).set (p := ⟨w.heap.size + 1 + 1, 3, none⟩) (by show w.heap.size ≤ w.heap.size + 1 + 1; omega) (.slice (some ⟨g4, 0, none⟩) P.length P.length)
  have lo4 := (o4.lt g4 rfl).2
  have hs4 : (w4.setCell ⟨w.heap.size + 1 + 1, 3, none⟩ (.slice (some ⟨g4, 0, none⟩) P.length P.length)).heap.size = w4.heap.size := by simp
  have q0 := b3.cell 0 rfl
  have q1 := b3.cell 1 rfl
  have q2 := b3.cell 2 rfl
  have q3 := b3.cell 3 rfl
  have a0 := b2.cell 0 rfl
  have a1 := b2.cell 1 rfl
  have a2 := b2.cell 2 rfl
  have a3 := b2.cell 3 rfl
  have f0 := b2.free 0
  have f1 := b2.free 1
  have f2 := b2.free 2
  have f3 := b2.free 3
  have O1 := Lib.hid O1
  have O2 := Lib.hid O2
  have O4 := Lib.hid O4
  have G4 := Lib.hid G4
  have b2 := Lib.hid b2
  clear b3a r2 B1 B2 B3 hb4 G2 o4 b3
  dsimp only
  go_wp2_with fail
  have c4 := (((b2.out.set 0 (.slice (some ⟨g1, 0, none⟩) F.length F.length)).set 1 (.slice (some ⟨g2, 0, none⟩) G.length G.length)).set 2 (.int .i64 C)).set 3 (.slice (some ⟨g4, 0, none⟩) P.length P.length)
  have e0 := c4.cell 0 rfl
  have e1 := c4.cell 1 rfl
  have e2 := c4.cell 2 rfl
  have e3 := c4.cell 3 rfl
  have rg := grow_set1 (grow_set1 (grow_set1 (grow_set1 (World.grownBy.refl (w4.setCell ⟨w.heap.size + 1 + 1, 3, none⟩ (.slice (some ⟨g4, 0, none⟩) P.length P.length)) (some (w.heap.size + 1))) 0 (.slice (some ⟨g1, 0, none⟩) F.length F.length)) 1 (.slice (some ⟨g2, 0, none⟩) G.length G.length)) 2 (.int .i64 C)) 3 (.slice (some ⟨g4, 0, none⟩) P.length P.length)
  have P1 := own_box O1.out b2.out (by decide) rg
  have P2 := own_box O2.out b2.out (by decide) rg
  have P4 := own_box O4.out b2.out (by decide) rg
  have G5 := (((G4.out.set (p := ⟨w.heap.size + 1, 0, none⟩) (by show w.heap.size ≤ w.heap.size + 1; omega) (.slice (some ⟨g1, 0, none⟩) F.length F.length)).set (p := ⟨w.heap.size + 1, 1, none⟩) (by show w.heap.size ≤ w.heap.size + 1; omega) (.slice (some ⟨g2, 0, none⟩) G.length G.length)).set (p := ⟨w.heap.size + 1, 2, none⟩) (by show w.heap.size ≤ w.heap.size + 1; omega) (.int .i64 C)).set (p := ⟨w.heap.size + 1, 3, none⟩) (by show w.heap.size ≤ w.heap.size + 1; omega) (.slice (some ⟨g4, 0, none⟩) P.length P.length)
  refine bodyPost_ret (v := .agg #[.slice (some ⟨g1, 0, none⟩) F.length F.length, .slice (some ⟨g2, 0, none⟩) G.length G.length, .int .i64 C, .slice (some ⟨g4, 0, none⟩) P.length P.length]) (by simp [results, Try.results6, go_sem, e0, e1, e2, e3]) rfl ⟨g1, g2, g4, rfl, by omega, by omega, by omega, by simp; omega, own_lower P1 (by omega), own_lower P2 (by omega), own_lower P4 (by omega), G5⟩

theorem box_two {w u : World} {cs ds : Array Value} {t s : TypeId} {v : Value} {j : Nat} (hu : Gw ((w.alloc (.cells cs t)).alloc (.cells ds s)) u) (hj : cs[j]? = some v) : u.cell? ⟨w.heap.size, j, none⟩ = some v :=
  box_cell (cs := cs) (t := t) (((Gw.refl _).alloc _).trans hu) hj
theorem box_two' {w u : World} {cs ds : Array Value} {t s : TypeId} {v : Value} {j : Nat} (hu : Gw ((w.alloc (.cells cs t)).alloc (.cells ds s)) u) (hj : ds[j]? = some v) : u.cell? ⟨w.heap.size + 1, j, none⟩ = some v := by
  have := box_cell hu hj
  simpa using this

set_option maxHeartbeats 2000000 in
theorem l_eqTransition (A A' : Option Addr) (ca ca' : Nat) (F : List (Int × Int)) (B B' : Option Addr) (cb cb' : Nat) (G : List (Int × Int)) (C : Int) (D D' : Option Addr) (cd cd' : Nat) (P : List Int) (w : World) (hF : F.length ≤ 1048576) (rF : Rd w A F) (rF' : Rd w A' F) (hG : G.length ≤ 1048576) (rG : Rd w B G) (rG' : Rd w B' G) (hP : P.length ≤ 1048576) (rP : Rd w D P) (rP' : Rd w D' P) :
    Calls Try.prog 9 #[.agg #[.slice A F.length ca, .slice B G.length cb, .int .i64 C, .slice D P.length cd], .agg #[.slice A' F.length ca', .slice B' G.length cb', .int .i64 C, .slice D' P.length cd']] w fun e w' => e = .returned (.bool true) ∧ Gw w w' := by
  have g0 := Lib.hid (((Gw.refl w).alloc (.cells #[.slice A F.length ca, .slice B G.length cb, .int .i64 C, .slice D P.length cd] 31)).alloc (.cells #[.slice A' F.length ca', .slice B' G.length cb', .int .i64 C, .slice D' P.length cd'] 31))
  have rF := Lib.hid rF
  have rG := Lib.hid rG
  have rP := Lib.hid rP
  have rF' := Lib.hid rF'
  have rG' := Lib.hid rG'
  have rP' := Lib.hid rP'
  go_enter Try.func9, Try.ntmps9
  go_wp2_with fail
  refine (l_eqSpotS A A' ca ca' F _ hF (rF.out.gw g0.out) (rF'.out.gw g0.out)).mono ?_
  rintro _ w1 ⟨rfl, hb1⟩
  have H1 := Lib.hid hb1
  have x1 := box_two hb1 (j := 1) rfl
  have y1 := box_two' hb1 (j := 1) rfl
  dsimp only
  go_wp2_with fail
  refine (l_eqSpotS B B' cb cb' G _ hG (rG.out.gw (g0.out.trans H1.out)) (rG'.out.gw (g0.out.trans H1.out))).mono ?_
  rintro _ w2 ⟨rfl, hb2⟩
  have hb2 := hb1.trans hb2
  have H2 := Lib.hid hb2
  have x2 := box_two hb2 (j := 2) rfl
  have y2 := box_two' hb2 (j := 2) rfl
  have x3 := box_two hb2 (j := 3) rfl
  have y3 := box_two' hb2 (j := 3) rfl
  clear hb1
  dsimp only
  go_wp2_with fail
  refine (l_eqIntS D D' cd cd' P _ hP (rP.out.gw (g0.out.trans H2.out)) (rP'.out.gw (g0.out.trans H2.out))).mono ?_
  rintro _ w3 ⟨rfl, hb3⟩
  dsimp only
  go_wp2_with fail
  go_ret
  exact ⟨rfl, (g0.out.trans H2.out).trans hb3⟩

set_option maxHeartbeats 2000000 in
theorem l_markTransition (gf ca f : Nat) (xs : List Value) (gg cb g : Nat) (ys : List Value) (C : Int) (gp cd p : Nat) (zs : List Value) (base : Nat) (w : World) (hf : f ≤ 1048576) (hg : g ≤ 1048576) (hp : p ≤ 1048576)
    (oF : w.ownsRow base 60 2 (.slice (some ⟨gf, 0, none⟩) f ca) f xs) (oG : w.ownsRow base 60 2 (.slice (some ⟨gg, 0, none⟩) g cb) g ys) (oP : w.ownsRow base 3 1 (.slice (some ⟨gp, 0, none⟩) p cd) p zs) (h1 : gf ≠ gg) (h2 : gf ≠ gp) (h3 : gg ≠ gp) :
    Calls Try.prog 10 #[.agg #[.slice (some ⟨gf, 0, none⟩) f ca, .slice (some ⟨gg, 0, none⟩) g cb, .int .i64 C, .slice (some ⟨gp, 0, none⟩) p cd], .int .i64 1] w fun e w' => (∃ k : Int, e = .returned (.int .i64 k) ∧ 0 ≤ k) ∧ ∃ u1 u2 u3, Gw w u1 ∧ u1.grownBy u2 (some gf) ∧ u2.grownBy u3 (some gg) ∧ u3.grownBy w' (some gp) := by
  have bx := Lib.hid (BoxR.new w #[.slice (some ⟨gf, 0, none⟩) f ca, .slice (some ⟨gg, 0, none⟩) g cb, .int .i64 C, .slice (some ⟨gp, 0, none⟩) p cd] 31)
  have l1 := (oF.lt gf rfl).2
  have l2 := (oG.lt gg rfl).2
  have l3 := (oP.lt gp rfl).2
  have oF := Lib.hid oF
  have oG := Lib.hid oG
  have oP := Lib.hid oP
  go_enter Try.func10, Try.ntmps10
  go_wp2_with fail
  refine (l_markSpotS _ _ _ base xs 1 _ hf (by omega) (oF.out.alloc _)).mono ?_
  rintro _ w1 ⟨rfl, -, hg1⟩
  have hg1 : World.grownBy _ w1 (some gf) := hg1
  have bx1 := bx.out.grown hg1 (by omega)
  have x1 := bx1.cell 1 rfl
  have oG1 := (oG.out.alloc (.cells #[.slice (some ⟨gf, 0, none⟩) f ca, .slice (some ⟨gg, 0, none⟩) g cb, .int .i64 C, .slice (some ⟨gp, 0, none⟩) p cd] 31)).kept hg1 (.inr (by show some gg ≠ some gf; simp; omega))
  have oP1 := (oP.out.alloc (.cells #[.slice (some ⟨gf, 0, none⟩) f ca, .slice (some ⟨gg, 0, none⟩) g cb, .int .i64 C, .slice (some ⟨gp, 0, none⟩) p cd] 31)).kept hg1 (.inr (by show some gp ≠ some gf; simp; omega))
  have H1 := Lib.hid hg1
  have Bx1 := Lib.hid bx1
  have oG1 := Lib.hid oG1
  have oP1 := Lib.hid oP1
  clear hg1 bx1
  dsimp only
  go_wp2_with fail
  refine (l_markSpotS _ _ _ base ys _ _ hg (by omega) oG1.out).mono ?_
  rintro _ w2 ⟨rfl, -, hg2⟩
  have hg2 : World.grownBy _ w2 (some gg) := hg2
  have bx2 := Bx1.out.grown hg2 (by omega)
  have x3 := bx2.cell 3 rfl
  have oP2 := oP1.out.kept hg2 (.inr (by show some gp ≠ some gg; simp; omega))
  have H2 := Lib.hid hg2
  have oP2 := Lib.hid oP2
  clear hg2 bx2
  dsimp only
  go_wp2_with fail
  refine (l_markIntS _ _ _ base zs _ _ hp (by omega) oP2.out).mono ?_
  rintro _ w3 ⟨rfl, -, hg3⟩
  have H3 : Hid (World.grownBy _ w3 (some gp)) := hg3
  clear hg3
  dsimp only
  go_wp2_with fail
  go_ret
  exact ⟨⟨_, rfl, by omega⟩, _, _, _, (Gw.refl w).alloc _, H1.out, H2.out, H3.out⟩
end Go.Proofs.Ytphfaeefjcdjjaa
