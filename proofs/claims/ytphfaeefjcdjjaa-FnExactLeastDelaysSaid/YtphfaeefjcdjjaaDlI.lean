/-
  The moves of a transition: both walks.
-/
import Derived.Test.YtphfaeefjcdjjaaDlHb
import Derived.Test.YtphfaeefjcdjjaaTyMove
import Derived.Test.YtphfaeefjcdjjaaStep
import Derived.Test.YtphfaeefjcdjjaaAppend
import Derived.Lib.SliceRun
import Derived.Test.YtphfaeefjcdjjaaBox
namespace Go.Proofs.Ytphfaeefjcdjjaa
open Go.RowKit
set_option linter.unusedVariables false

abbrev MvT := Int × Int × Int × Int × Int
def moveN (F G : List (Int × Int)) (C : Int) (P : List Int) (i : Nat) : MvT :=
  ((F.getD i (0, 0)).1, (F.getD i (0, 0)).2, (G.getD (P.getD i 0).toNat (0, 0)).1, (G.getD (P.getD i 0).toNat (0, 0)).2, C)
def movesTo (F G : List (Int × Int)) (C : Int) (P : List Int) (k : Nat) : List MvT := (List.range k).map (moveN F G C P)
def movesL (F G : List (Int × Int)) (C : Int) (P : List Int) : List MvT := movesTo F G C P P.length
theorem movesTo_succ (F G : List (Int × Int)) (C : Int) (P : List Int) (k : Nat) : movesTo F G C P (k + 1) = movesTo F G C P k ++ [moveN F G C P k] := by
  unfold movesTo; rw [List.range_succ, List.map_append]; rfl
theorem movesTo_len (F G : List (Int × Int)) (C : Int) (P : List Int) (k : Nat) : (movesTo F G C P k).length = k := by unfold movesTo; simp
theorem getD_of {α : Type} {l : List α} {k : Nat} {x d : α} (h : l[k]? = some x) : l.getD k d = x := by rw [List.getD_eq_getElem?_getD, h]; rfl

theorem rdBox {α : Type} [Flat α] (w : World) (e : TypeId) (y : α) : Rd (w.alloc (.cells (Flat.cells y).toArray e)) (some ⟨w.heap.size, 0, none⟩) [y] := by
  intro _
  refine ⟨w.heap.size, 0, rfl, by simp, fun i z hz j u hu => ?_⟩
  cases i with
  | zero =>
    simp only [List.getElem?_cons_zero, Option.some.injEq] at hz
    subst hz
    rw [cell_of_row _ _ _ _ _ _ (heap_alloc_new w (.cells (Flat.cells y).toArray e))]
    simpa using hu
  | succ i => simp at hz

set_option maxHeartbeats 4000000 in
theorem i_movesOf (A : Option Addr) (ca : Nat) (F : List (Int × Int)) (B : Option Addr) (cb : Nat) (G : List (Int × Int)) (C : Int) (D : Option Addr) (cd : Nat) (P : List Int) (w : World) (rF : Rd w A F) (rG : Rd w B G) (rP : Rd w D P) (hT : RepT F G C P) :
    Calls Try.prog 32 #[.agg #[.slice A F.length ca, .slice B G.length cb, .int .i64 C, .slice D P.length cd]] w fun e w' => ∃ A c, e = .returned (.slice A P.length c) ∧ w'.ownsRow w.heap.size 72 5 (.slice A P.length c) P.length (flat (movesL F G C P)) ∧ Gw w w' := by
  obtain ⟨i0, hi, hz0, hz1, hz2⟩ := info_parts infoMove
  have bx := Lib.hid (BoxR.new w #[.slice A F.length ca, .slice B G.length cb, .int .i64 C, .slice D P.length cd] 31)
  have g0 := Lib.hid ((Gw.refl w).alloc (.cells #[.slice A F.length ca, .slice B G.length cb, .int .i64 C, .slice D P.length cd] 31))
  have HM := Lib.hid hT.1.2.2.2.2
  have hFG := Lib.hid hT.1.2.2.1
  have hP6 : P.length ≤ 6 := by have := hT.1.2.2.2.2.2; have := hT.2.2; omega
  clear hT
  go_enter Try.func32, Try.ntmps32
  go_wp2_with fail
  go_loopw [3, 4, 5, 10] (fun o _ _ q wr => ∃ (j : Nat) (E : Option Addr) (d : Nat), q = .int .i64 j ∧ j ≤ P.length ∧ o = .slice E j d ∧ wr.ownsRow (w.heap.size + 1) 72 5 (.slice E j d) j (flat (movesTo F G C P j)) ∧ Gw (w.alloc (.cells #[.slice A F.length ca, .slice B G.length cb, .int .i64 C, .slice D P.length cd] 31)) wr) (fun _ _ _ q _ => P.length - (intOf q).toNat)
  case atStart => exact ⟨0, some ⟨w.heap.size + 1, 0, none⟩, 0, by go_num, Nat.zero_le _, rfl, by have := World.ownsRow_made (base := w.heap.size + 1) (e := 72) (size := 5) (w.alloc (.cells #[.slice A F.length ca, .slice B G.length cb, .int .i64 C, .slice D P.length cd] 31)) #[] 0 (by simp) (by simp [maxLen]) (by simp); simp only [World.size_alloc] at this; exact this, (Gw.refl _).alloc _⟩
  case round =>
    obtain ⟨j, E, d, rfl, hj, rfl, hown, hg⟩ := hrel
    have hgz := hg.size
    (try simp at hgz)
    by_cases hlt : j < P.length
    · obtain ⟨x, hx⟩ := get_of_lt hlt
      have hxb := (HM.out.1 j x hx).1
      have hPF := HM.out.2
      obtain ⟨z, rfl⟩ := Int.eq_ofNat_of_zero_le hxb.1
      have hz : z < G.length := by have := hFG.out; omega
      have hjF : j < F.length := by omega
      obtain ⟨y, hy⟩ := get_of_lt hjF
      obtain ⟨v, hv⟩ := get_of_lt hz
      have hmn : Hid (moveN F G C P j = (y.1, y.2, v.1, v.2, C)) := by
        unfold Hid moveN
        rw [getD_of hx, getD_of hy, Int.toNat_natCast, getD_of hv]
      obtain ⟨b0, o0, rfl, hb0, a0⟩ := (rP.gw (g0.out.trans hg)).get1 hx
      obtain ⟨b1, o1, rfl, hb1, d0, d1⟩ := (rF.gw (g0.out.trans hg)).get2 hy
      obtain ⟨b2, o2, rfl, hb2, e0, e1⟩ := (rG.gw (g0.out.trans hg)).get2 hv
      have hjF' : (j : Int) < (F.length : Int) := by omega
      have hz' : (z : Int) < (G.length : Int) := by omega
      have hj0 : (0 : Int) ≤ (j : Int) := by omega
      have hj1 : (j : Int) < (P.length : Int) := by omega
      have hz0' : (0 : Int) ≤ (z : Int) := by omega
      have p0 := (bx.out.gw hg).cell 0 rfl
      have p1 := (bx.out.gw hg).cell 1 rfl
      have p2 := (bx.out.gw hg).cell 2 rfl
      obtain ⟨b1', o1', hae, hb1', d0', d1'⟩ := (rF.gw g0.out).get2 hy
      simp only [Option.some.injEq, Addr.mk.injEq, and_true] at hae
      obtain ⟨rfl, rfl⟩ := hae
      obtain ⟨b2', o2', hae, hb2', e0', e1'⟩ := (rG.gw g0.out).get2 hv
      simp only [Option.some.injEq, Addr.mk.injEq, and_true] at hae
      obtain ⟨rfl, rfl⟩ := hae
      clear hx hy hv hxb
      obtain ⟨y1, y2⟩ := y
      obtain ⟨v1, v2⟩ := v
      dsimp only at d0 d1 e0 e1 d0' d1' e0' e1'
      have hks : ∀ u, Gw (w.alloc (.cells #[.slice (some ⟨b1, o1, none⟩) F.length ca, .slice (some ⟨b2, o2, none⟩) G.length cb, .int .i64 C, .slice (some ⟨b0, o0, none⟩) P.length cd] 31)) u → (u.cell? ⟨w.heap.size, 0, none⟩ = some (.slice (some ⟨b1, o1, none⟩) F.length ca) ∧ u.cell? ⟨w.heap.size, 1, none⟩ = some (.slice (some ⟨b2, o2, none⟩) G.length cb) ∧ u.cell? ⟨w.heap.size, 2, none⟩ = some (.int .i64 C) ∧ u.cell? ⟨b1, o1 + j * 2, none⟩ = some (.int .i64 y1) ∧ u.cell? ⟨b1, o1 + j * 2 + 1, none⟩ = some (.int .i64 y2) ∧ u.cell? ⟨b2, o2 + z * 2, none⟩ = some (.int .i64 v1) ∧ u.cell? ⟨b2, o2 + z * 2 + 1, none⟩ = some (.int .i64 v2)) := fun u hu =>
        ⟨(bx.out.gw hu).cell 0 rfl, (bx.out.gw hu).cell 1 rfl, (bx.out.gw hu).cell 2 rfl, by rw [hu.cells _ _ hb1']; exact d0', by rw [hu.cells _ _ hb1']; exact d1', by rw [hu.cells _ _ hb2']; exact e0', by rw [hu.cells _ _ hb2']; exact e1'⟩
      have Hks := Lib.hid hks
      have hzN := hg.size
      simp only [World.size_alloc] at hzN
      clear hks d0 d1 e0 e1 d0' d1' e0' e1' p0 p1 p2 hPF
      go_wp2_with fail
      go_region_held3 (fun u => u.cell? ⟨w.heap.size, 0, none⟩ = some (.slice (some ⟨b1, o1, none⟩) F.length ca) ∧ u.cell? ⟨w.heap.size, 1, none⟩ = some (.slice (some ⟨b2, o2, none⟩) G.length cb) ∧ u.cell? ⟨w.heap.size, 2, none⟩ = some (.int .i64 C) ∧ u.cell? ⟨b1, o1 + j * 2, none⟩ = some (.int .i64 y1) ∧ u.cell? ⟨b1, o1 + j * 2 + 1, none⟩ = some (.int .i64 y2) ∧ u.cell? ⟨b2, o2 + z * 2, none⟩ = some (.int .i64 v1) ∧ u.cell? ⟨b2, o2 + z * 2 + 1, none⟩ = some (.int .i64 v2)) (first | exact Hks.out _ (by (repeat (first | with_reducible exact Gw.refl _ | with_reducible assumption | ((with_reducible refine Gw.set ?_ ?_ _); rotate_left; (focus (first | (simp; done) | (simp; omega) | omega))) | with_reducible refine Gw.alloc ?_ _ | with_reducible refine Gw.drew ?_ | with_reducible refine Gw.drewN ?_ _ | (refine Gw.trans ?_ (by with_reducible assumption))))) | go_keep)
        (first
          | (refine step_cat (α := MvT) rfl (.tmp 15) (.tmp 29) 49 (by rfl) (w.heap.size + 1) 72 i0 _ 40 Try.underlying49 hi hz0 hz1 hz2 rfl (by omega) (movesTo F G C P j) j (movesTo_len F G C P j) E d (by rfl) [(y1, y2, v1, v2, C)] 1 rfl _ 1 (by rfl) ((rdBox wr _ (y1, y2, v1, v2, C)).gw (Gw.refl _).drew) (hown.alloc _).drew (by omega) (by omega) (by simp; omega) ?_; intro A9 c9 w9 hown9 hgg9 hgr9; have hgw9 := hgg9 _ (Gw.trans hg (by (repeat (first | with_reducible exact Gw.refl _ | with_reducible assumption | ((with_reducible refine Gw.set ?_ ?_ _); rotate_left; (focus (first | (simp; done) | (simp; omega) | omega))) | with_reducible refine Gw.alloc ?_ _ | with_reducible refine Gw.drew ?_ | with_reducible refine Gw.drewN ?_ _ | (refine Gw.trans ?_ (by with_reducible assumption)))))) (by simp); clear hgg9 hgr9)
          | fail)
      have hfin : Hid (w9.ownsRow (w.heap.size + 1) 72 5 (.slice A9 (j + 1) c9) (j + 1) (flat (movesTo F G C P (j + 1)))) := by
        unfold Hid
        rw [movesTo_succ, hmn.out]
        exact hown9
      clear hown9
      go_wp2_with fail
      go_roundw
      case rel => exact ⟨j + 1, A9, c9, by go_num, by omega, rfl, hfin.out, hgw9⟩
      case measure => simp [intOf]; omega
    · obtain rfl : j = P.length := by omega
      go_wp2_with fail
      go_ret
      exact ⟨E, d, rfl, own_lower hown (by omega), g0.out.trans hg⟩

set_option maxHeartbeats 4000000 in
theorem s_asMoves (A : Option Addr) (ca : Nat) (F : List (Int × Int)) (B : Option Addr) (cb : Nat) (G : List (Int × Int)) (C : Int) (D : Option Addr) (cd : Nat) (P : List Int) (w : World) (rF : Rd w A F) (rG : Rd w B G) (rP : Rd w D P) (hT : RepT F G C P) :
    Calls Try.prog 27 #[.agg #[.slice A F.length ca, .slice B G.length cb, .int .i64 C, .slice D P.length cd]] w fun e w' => ∃ A c, e = .returned (.slice A P.length c) ∧ w'.ownsRow w.heap.size 72 5 (.slice A P.length c) P.length (flat (movesL F G C P)) ∧ Gw w w' := by
  obtain ⟨i0, hi, hz0, hz1, hz2⟩ := info_parts infoMove
  have bx := Lib.hid (BoxR.new w #[.slice A F.length ca, .slice B G.length cb, .int .i64 C, .slice D P.length cd] 31)
  have g0 := Lib.hid ((Gw.refl w).alloc (.cells #[.slice A F.length ca, .slice B G.length cb, .int .i64 C, .slice D P.length cd] 31))
  have HM := Lib.hid hT.1.2.2.2.2
  have hFG := Lib.hid hT.1.2.2.1
  have hP6 : P.length ≤ 6 := by have := hT.1.2.2.2.2.2; have := hT.2.2; omega
  clear hT
  go_enter Try.func27, Try.ntmps27
  go_wp2_with fail
  go_loopw [3, 4, 5, 9] (fun o _ _ q wr => ∃ (j : Nat) (E : Option Addr) (d : Nat), q = .int .i64 j ∧ j ≤ P.length ∧ o = .slice E j d ∧ wr.ownsRow (w.heap.size + 1) 72 5 (.slice E j d) j (flat (movesTo F G C P j)) ∧ Gw (w.alloc (.cells #[.slice A F.length ca, .slice B G.length cb, .int .i64 C, .slice D P.length cd] 31)) wr) (fun _ _ _ q _ => P.length - (intOf q).toNat)
  case atStart => exact ⟨0, none, 0, by go_num, Nat.zero_le _, rfl, World.ownsRow_nil _ _ _ _, Gw.refl _⟩
  case round =>
    obtain ⟨j, E, d, rfl, hj, rfl, hown, hg⟩ := hrel
    have hgz := hg.size
    (try simp at hgz)
    by_cases hlt : j < P.length
    · obtain ⟨x, hx⟩ := get_of_lt hlt
      have hxb := (HM.out.1 j x hx).1
      have hPF := HM.out.2
      obtain ⟨z, rfl⟩ := Int.eq_ofNat_of_zero_le hxb.1
      have hz : z < G.length := by have := hFG.out; omega
      have hjF : j < F.length := by omega
      obtain ⟨y, hy⟩ := get_of_lt hjF
      obtain ⟨v, hv⟩ := get_of_lt hz
      have hmn : Hid (moveN F G C P j = (y.1, y.2, v.1, v.2, C)) := by
        unfold Hid moveN
        rw [getD_of hx, getD_of hy, Int.toNat_natCast, getD_of hv]
      obtain ⟨b0, o0, rfl, hb0, a0⟩ := (rP.gw (g0.out.trans hg)).get1 hx
      obtain ⟨b1, o1, rfl, hb1, d0, d1⟩ := (rF.gw (g0.out.trans hg)).get2 hy
      obtain ⟨b2, o2, rfl, hb2, e0, e1⟩ := (rG.gw (g0.out.trans hg)).get2 hv
      have hjF' : (j : Int) < (F.length : Int) := by omega
      have hz' : (z : Int) < (G.length : Int) := by omega
      have hj0 : (0 : Int) ≤ (j : Int) := by omega
      have hj1 : (j : Int) < (P.length : Int) := by omega
      have hz0' : (0 : Int) ≤ (z : Int) := by omega
      have p0 := (bx.out.gw hg).cell 0 rfl
      have p1 := (bx.out.gw hg).cell 1 rfl
      have p2 := (bx.out.gw hg).cell 2 rfl
      obtain ⟨b1', o1', hae, hb1', d0', d1'⟩ := (rF.gw g0.out).get2 hy
      simp only [Option.some.injEq, Addr.mk.injEq, and_true] at hae
      obtain ⟨rfl, rfl⟩ := hae
      obtain ⟨b2', o2', hae, hb2', e0', e1'⟩ := (rG.gw g0.out).get2 hv
      simp only [Option.some.injEq, Addr.mk.injEq, and_true] at hae
      obtain ⟨rfl, rfl⟩ := hae
      clear hx hy hv hxb
      obtain ⟨y1, y2⟩ := y
      obtain ⟨v1, v2⟩ := v
      dsimp only at d0 d1 e0 e1 d0' d1' e0' e1'
      have hks : ∀ u, Gw (w.alloc (.cells #[.slice (some ⟨b1, o1, none⟩) F.length ca, .slice (some ⟨b2, o2, none⟩) G.length cb, .int .i64 C, .slice (some ⟨b0, o0, none⟩) P.length cd] 31)) u → (u.cell? ⟨w.heap.size, 0, none⟩ = some (.slice (some ⟨b1, o1, none⟩) F.length ca) ∧ u.cell? ⟨w.heap.size, 1, none⟩ = some (.slice (some ⟨b2, o2, none⟩) G.length cb) ∧ u.cell? ⟨w.heap.size, 2, none⟩ = some (.int .i64 C) ∧ u.cell? ⟨b1, o1 + j * 2, none⟩ = some (.int .i64 y1) ∧ u.cell? ⟨b1, o1 + j * 2 + 1, none⟩ = some (.int .i64 y2) ∧ u.cell? ⟨b2, o2 + z * 2, none⟩ = some (.int .i64 v1) ∧ u.cell? ⟨b2, o2 + z * 2 + 1, none⟩ = some (.int .i64 v2)) := fun u hu =>
        ⟨(bx.out.gw hu).cell 0 rfl, (bx.out.gw hu).cell 1 rfl, (bx.out.gw hu).cell 2 rfl, by rw [hu.cells _ _ hb1']; exact d0', by rw [hu.cells _ _ hb1']; exact d1', by rw [hu.cells _ _ hb2']; exact e0', by rw [hu.cells _ _ hb2']; exact e1'⟩
      have Hks := Lib.hid hks
      have hzN := hg.size
      simp only [World.size_alloc] at hzN
      clear hks d0 d1 e0 e1 d0' d1' e0' e1' p0 p1 p2 hPF
      go_wp2_with fail
      go_region_held3 (fun u => u.cell? ⟨w.heap.size, 0, none⟩ = some (.slice (some ⟨b1, o1, none⟩) F.length ca) ∧ u.cell? ⟨w.heap.size, 1, none⟩ = some (.slice (some ⟨b2, o2, none⟩) G.length cb) ∧ u.cell? ⟨w.heap.size, 2, none⟩ = some (.int .i64 C) ∧ u.cell? ⟨b1, o1 + j * 2, none⟩ = some (.int .i64 y1) ∧ u.cell? ⟨b1, o1 + j * 2 + 1, none⟩ = some (.int .i64 y2) ∧ u.cell? ⟨b2, o2 + z * 2, none⟩ = some (.int .i64 v1) ∧ u.cell? ⟨b2, o2 + z * 2 + 1, none⟩ = some (.int .i64 v2)) (first | exact Hks.out _ (by (repeat (first | with_reducible exact Gw.refl _ | with_reducible assumption | ((with_reducible refine Gw.set ?_ ?_ _); rotate_left; (focus (first | (simp; done) | (simp; omega) | omega))) | with_reducible refine Gw.alloc ?_ _ | with_reducible refine Gw.drew ?_ | with_reducible refine Gw.drewN ?_ _ | (refine Gw.trans ?_ (by with_reducible assumption))))) | go_keep)
        (first
          | (refine step_cat (α := MvT) rfl (.tmp 14) (.tmp 28) 49 (by rfl) (w.heap.size + 1) 72 i0 _ 40 Try.underlying49 hi hz0 hz1 hz2 rfl (by omega) (movesTo F G C P j) j (movesTo_len F G C P j) E d (by rfl) [(y1, y2, v1, v2, C)] 1 rfl _ 1 (by rfl) ((rdBox wr _ (y1, y2, v1, v2, C)).gw (Gw.refl _).drew) (hown.alloc _).drew (by omega) (by omega) (by simp; omega) ?_; intro A9 c9 w9 hown9 hgg9 hgr9; have hgw9 := hgg9 _ (Gw.trans hg (by (repeat (first | with_reducible exact Gw.refl _ | with_reducible assumption | ((with_reducible refine Gw.set ?_ ?_ _); rotate_left; (focus (first | (simp; done) | (simp; omega) | omega))) | with_reducible refine Gw.alloc ?_ _ | with_reducible refine Gw.drew ?_ | with_reducible refine Gw.drewN ?_ _ | (refine Gw.trans ?_ (by with_reducible assumption)))))) (by simp); clear hgg9 hgr9)
          | fail)
      have hfin : Hid (w9.ownsRow (w.heap.size + 1) 72 5 (.slice A9 (j + 1) c9) (j + 1) (flat (movesTo F G C P (j + 1)))) := by
        unfold Hid
        rw [movesTo_succ, hmn.out]
        exact hown9
      clear hown9
      go_wp2_with fail
      go_roundw
      case rel => exact ⟨j + 1, A9, c9, by go_num, by omega, rfl, hfin.out, hgw9⟩
      case measure => simp [intOf]; omega
    · obtain rfl : j = P.length := by omega
      go_wp2_with fail
      go_ret
      exact ⟨E, d, rfl, own_lower hown (by omega), g0.out.trans hg⟩
end Go.Proofs.Ytphfaeefjcdjjaa
