/-
  The earliest hours of a rehearsal: the program's way.
-/
import Derived.Test.YtipndibiioajmaaPlanP
import Derived.Test.YtipndibiioajmaaAppend
import Derived.Test.YtipndibiioajmaaBox
namespace Go.Proofs.Ytipndibiioajmaa
open Go.RowKit

noncomputable def firstV (W : List (Int × Int × Int)) (S : List B4) (r : Int × Int) : B4 × Bool := match firstB W S r with
  | some x => (x, true)
  | none => ((0, 0, 0, 0), false)
abbrev retB (x : B4) (b : Bool) : Ending := .returned (.tuple #[.agg #[.int .i64 x.1, .int .i64 x.2.1, .int .i64 x.2.2.1, .int .i64 x.2.2.2], .bool b])

set_option maxHeartbeats 4000000 in
set_option maxRecDepth 100000 in
theorem i_earliest (A : Option Addr) (cA : Nat) (W : List (Int × Int × Int)) (B : Option Addr) (cB n : Nat) (S : List B4) (r1 r2 : Int) (w : World) (hlW : W.length ≤ 1048576) (hA : Rd w A W) (hn : S.length = n) (hlS : n ≤ 1048576) (hB : Rd w B S) (hW : WinsP W) (hr : ReP r1 r2) :
    Calls Try.prog 72 #[.slice A W.length cA, .agg #[.int .i64 r1, .int .i64 r2], .slice B n cB] w fun e w' => e = retB (firstV W S (r1, r2)).1 (firstV W S (r1, r2)).2 ∧ Gw w w' := by
  have HW := Lib.hid hW
  have HA := Lib.hid hA
  have HB := Lib.hid hB
  have Hn := Lib.hid hn
  clear hn hA hB hW
  go_enter Try.func72, Try.ntmps72
  go_wp2_with fail
  have hr2 : 1 ≤ r2 ∧ r2 ≤ 12 := by have := hr; omega
  have hbz : ∀ u, Gw ((w.alloc (.cells #[.int .i64 r1, .int .i64 r2] 59)).alloc (.cells #[.int .i64 0, .int .i64 0, .int .i64 0, .int .i64 0] 88)) u → (Gw w u ∧ u.cell? ⟨w.heap.size, 0, none⟩ = some (.int .i64 r1) ∧ u.cell? ⟨w.heap.size, 1, none⟩ = some (.int .i64 r2) ∧ BoxR u (w.heap.size + 1) #[.int .i64 0, .int .i64 0, .int .i64 0, .int .i64 0] 88) := fun u hu => by
    have q1 : Gw (w.alloc (.cells #[.int .i64 r1, .int .i64 r2] 59)) u := Gw.trans ((Gw.refl _).alloc _) hu
    have q2 := (BoxR.new (w.alloc (.cells #[.int .i64 r1, .int .i64 r2] 59)) #[.int .i64 0, .int .i64 0, .int .i64 0, .int .i64 0] 88).gw hu
    exact ⟨Gw.trans ((Gw.refl _).alloc _) q1, box_cell q1 rfl, box_cell q1 rfl, by simpa using q2⟩
  have Hbz := Lib.hid hbz
  clear hbz
  go_loopw [8] (fun f wr => ∃ F : Nat, f = .int .i64 F ∧ F ≤ 168 ∧ Hid (noneTo W S (r1, r2) F 1) ∧ Gw ((w.alloc (.cells #[.int .i64 r1, .int .i64 r2] 59)).alloc (.cells #[.int .i64 0, .int .i64 0, .int .i64 0, .int .i64 0] 88)) wr) (fun f _ => 168 - (intOf f).toNat)
  case atStart => exact ⟨0, by go_num, by omega, noneTo.zero HW.out, Gw.refl _⟩
  case round =>
    obtain ⟨wo, rfl⟩ : ∃ wo : World, wo = wr := ⟨_, rfl⟩
    obtain ⟨F, rfl, hF, hno, hgw⟩ := hrel
    obtain ⟨g1, c1, c2, bz⟩ := Hbz.out wo hgw
    have bzl := bz.lt
    have HG := Lib.hid hgw
    have HAo := Lib.hid (HA.out.gw g1)
    clear hgw
    by_cases hlt : (F : Int) + r2 ≤ 168
    · go_wp2_with fail
      go_loopw [21] (fun q w3 => ∃ k : Nat, q = .int .i64 k ∧ k ≤ W.length ∧ Hid (AllTo (wnNo W S (r1, r2) F) W k) ∧ Gw wo w3) (fun q _ => W.length - (intOf q).toNat)
      case atStart => exact ⟨0, by go_num, Nat.zero_le _, AllTo.zero, Gw.refl _⟩
      case round =>
        obtain ⟨k, rfl, hk, hall, hgi⟩ := hrel
        have hgi2 := Gw.trans HG.out hgi
        obtain ⟨q1, d1, d2, bz2⟩ := Hbz.out wr hgi2
        by_cases hkl : k < W.length
        · obtain ⟨x, hx⟩ := get_of_lt hkl
          obtain ⟨b, off, rfl, hb, e0, e1, e2⟩ := (HAo.out.gw hgi).get3 hx
          have Hx := Lib.hid hx
          clear hx
          obtain ⟨x1, x2, x3⟩ := x
          dsimp only at e0 e1 e2
          have hbz2 := bz2.lt
          have hws : w.heap.size < wr.heap.size := by omega
          by_cases h1 : x2 ≤ (F : Int)
          · by_cases h2 : (F : Int) + r2 ≤ x3
            · go_wp2_with fail
              refine (i_collidesWith _ _ _ _ _ n _ S _ Hn.out hlS ((HB.out.gw q1).gw (by (repeat (first | with_reducible exact Gw.refl _ | with_reducible assumption | ((with_reducible refine Gw.set ?_ ?_ _); rotate_left; (focus (first | (simp; done) | (simp; omega) | omega))) | with_reducible refine Gw.alloc ?_ _ | with_reducible refine Gw.drew ?_ | with_reducible refine Gw.drewN ?_ _ | (refine Gw.trans ?_ (by with_reducible assumption))))))).mono ?_
              rintro _ w4 (⟨hp, rfl, hb4⟩ | ⟨hp, rfl, hb4⟩)
              · have hw : Hid (wnNo W S (r1, r2) F (x1, x2, x3)) := fun h => h.2.2 hp
                clear hp
                go_wp2_with fail
                go_roundw
                case rel => exact ⟨k + 1, by go_num, by omega, AllTo.succ hall.out Hx.out hw.out, by (repeat (first | with_reducible exact Gw.refl _ | with_reducible assumption | ((with_reducible refine Gw.set ?_ ?_ _); rotate_left; (focus (first | (simp; done) | (simp; omega) | omega))) | with_reducible refine Gw.alloc ?_ _ | with_reducible refine Gw.drew ?_ | with_reducible refine Gw.drewN ?_ _ | (refine Gw.trans ?_ (by with_reducible assumption))))⟩
                case measure => simp [intOf]; omega
              · have hfb : Hid (firstB W S (r1, r2) = some (r1, x1, (F : Int), (F : Int) + r2)) := firstB_some (by omega) hlt ⟨⟨(x1, x2, x3), mem_of_get Hx.out, rfl, h1, h2⟩, hp⟩ (noneTo.win HW.out hno.out hall.out Hx.out)
                have hfv : Hid (firstV W S (r1, r2) = ((r1, x1, (F : Int), (F : Int) + r2), true)) := by unfold Hid firstV; rw [hfb.out]
                clear hp
                have hg4 : Gw wr w4 := by (repeat (first | with_reducible exact Gw.refl _ | with_reducible assumption | ((with_reducible refine Gw.set ?_ ?_ _); rotate_left; (focus (first | (simp; done) | (simp; omega) | omega))) | with_reducible refine Gw.alloc ?_ _ | with_reducible refine Gw.drew ?_ | with_reducible refine Gw.drewN ?_ _ | (refine Gw.trans ?_ (by with_reducible assumption))))
                have b0 := box_cell (w := wr.alloc (.cells #[.int .i64 x1, .int .i64 x2, .int .i64 x3] 71)) (j := 0) hb4 rfl
                have b1 := box_cell (w := wr.alloc (.cells #[.int .i64 x1, .int .i64 x2, .int .i64 x3] 71)) (j := 1) hb4 rfl
                have b2 := box_cell (w := wr.alloc (.cells #[.int .i64 x1, .int .i64 x2, .int .i64 x3] 71)) (j := 2) hb4 rfl
                have b3 := box_cell (w := wr.alloc (.cells #[.int .i64 x1, .int .i64 x2, .int .i64 x3] 71)) (j := 3) hb4 rfl
                simp only [World.size_alloc] at b0 b1 b2 b3
                have bz4 := bz2.gw hg4
                have z0 := bz4.cell 0 rfl
                have z1 := bz4.cell 1 rfl
                have z2 := bz4.cell 2 rfl
                have z3 := bz4.cell 3 rfl
                have y0 := bz4.free 0
                have y1 := bz4.free 1
                have y2 := bz4.free 2
                have y3 := bz4.free 3
                have hq := (((bz4.set 0 (.int .i64 r1)).set 1 (.int .i64 x1)).set 2 (.int .i64 (F : Int))).set 3 (.int .i64 ((F : Int) + r2))
                have hgo : Gw w w4 := Gw.trans q1 hg4
                have hgw4 : Gw w ((((w4.setCell ⟨w.heap.size + 1, 0, none⟩ (.int .i64 r1)).setCell ⟨w.heap.size + 1, 1, none⟩ (.int .i64 x1)).setCell ⟨w.heap.size + 1, 2, none⟩ (.int .i64 (F : Int))).setCell ⟨w.heap.size + 1, 3, none⟩ (.int .i64 ((F : Int) + r2))) := by (repeat (first | with_reducible exact Gw.refl _ | with_reducible assumption | ((with_reducible refine Gw.set ?_ ?_ _); rotate_left; (focus (first | (simp; done) | (simp; omega) | omega))) | with_reducible refine Gw.alloc ?_ _ | with_reducible refine Gw.drew ?_ | with_reducible refine Gw.drewN ?_ _ | (refine Gw.trans ?_ (by with_reducible assumption))))
                have Hq := Lib.hid hq
                clear hq
                go_wp2_with fail
                have q0 := Hq.out.cell 0 rfl
                have q1 := Hq.out.cell 1 rfl
                have q2 := Hq.out.cell 2 rfl
                have q3 := Hq.out.cell 3 rfl
                exact bodyPost_ret (v := .tuple #[.agg #[.int .i64 r1, .int .i64 x1, .int .i64 (F : Int), .int .i64 ((F : Int) + r2)], .bool true]) (by simp [results, Try.results72, go_sem, q0, q1, q2, q3]) rfl ⟨by rw [hfv.out], hgw4⟩
            · have hw : Hid (wnNo W S (r1, r2) F (x1, x2, x3)) := fun h => h2 h.2.1
              go_wp2_with fail
              go_roundw
              case rel => exact ⟨k + 1, by go_num, by omega, AllTo.succ hall.out Hx.out hw.out, by (repeat (first | with_reducible exact Gw.refl _ | with_reducible assumption | ((with_reducible refine Gw.set ?_ ?_ _); rotate_left; (focus (first | (simp; done) | (simp; omega) | omega))) | with_reducible refine Gw.alloc ?_ _ | with_reducible refine Gw.drew ?_ | with_reducible refine Gw.drewN ?_ _ | (refine Gw.trans ?_ (by with_reducible assumption))))⟩
              case measure => simp [intOf]; omega
          · have hw : Hid (wnNo W S (r1, r2) F (x1, x2, x3)) := fun h => h1 h.1
            go_wp2_with fail
            go_roundw
            case rel => exact ⟨k + 1, by go_num, by omega, AllTo.succ hall.out Hx.out hw.out, by (repeat (first | with_reducible exact Gw.refl _ | with_reducible assumption | ((with_reducible refine Gw.set ?_ ?_ _); rotate_left; (focus (first | (simp; done) | (simp; omega) | omega))) | with_reducible refine Gw.alloc ?_ _ | with_reducible refine Gw.drew ?_ | with_reducible refine Gw.drewN ?_ _ | (refine Gw.trans ?_ (by with_reducible assumption))))⟩
            case measure => simp [intOf]; omega
        · have hn2 : Hid (noneTo W S (r1, r2) ((F : Int) + 1) 1) := noneTo.wins HW.out hno.out (AllTo.all hall.out (by omega))
          go_wp2_with fail
          go_roundw
          case rel => exact ⟨F + 1, by go_num, by omega, by unfold Hid; rw [show ((F + 1 : Nat) : Int) = (F : Int) + 1 by omega]; exact hn2.out, hgi2⟩
          case measure => simp [intOf]; omega
    · have hfb : Hid (firstB W S (r1, r2) = none) := firstB_none (noneTo.last hno.out (by show (168 : Int) < _ + r2; omega))
      have hfv : Hid (firstV W S (r1, r2) = ((0, 0, 0, 0), false)) := by unfold Hid firstV; rw [hfb.out]
      have z0 := bz.cell 0 rfl
      have z1 := bz.cell 1 rfl
      have z2 := bz.cell 2 rfl
      have z3 := bz.cell 3 rfl
      have y0 := bz.free 0
      have y1 := bz.free 1
      have y2 := bz.free 2
      have y3 := bz.free 3
      have hq := (((bz.set 0 (.int .i64 0)).set 1 (.int .i64 0)).set 2 (.int .i64 0)).set 3 (.int .i64 0)
      have hgw4 : Gw w ((((wo.setCell ⟨w.heap.size + 1, 0, none⟩ (.int .i64 0)).setCell ⟨w.heap.size + 1, 1, none⟩ (.int .i64 0)).setCell ⟨w.heap.size + 1, 2, none⟩ (.int .i64 0)).setCell ⟨w.heap.size + 1, 3, none⟩ (.int .i64 0)) := by (repeat (first | with_reducible exact Gw.refl _ | with_reducible assumption | ((with_reducible refine Gw.set ?_ ?_ _); rotate_left; (focus (first | (simp; done) | (simp; omega) | omega))) | with_reducible refine Gw.alloc ?_ _ | with_reducible refine Gw.drew ?_ | with_reducible refine Gw.drewN ?_ _ | (refine Gw.trans ?_ (by with_reducible assumption))))
      have Hq := Lib.hid hq
      clear hq
      go_wp2_with fail
      have q0 := Hq.out.cell 0 rfl
      have q1 := Hq.out.cell 1 rfl
      have q2 := Hq.out.cell 2 rfl
      have q3 := Hq.out.cell 3 rfl
      exact bodyPost_ret (v := .tuple #[.agg #[.int .i64 0, .int .i64 0, .int .i64 0, .int .i64 0], .bool false]) (by simp [results, Try.results72, go_sem, q0, q1, q2, q3]) rfl ⟨by rw [hfv.out], hgw4⟩
end Go.Proofs.Ytipndibiioajmaa
