/-
  The text of edits, written.
-/
import Derived.Test.YtoofpajeogllhaaDoorTextE
namespace Go.Proofs.YtoofpajeogllhaaDoor
open Go.RowKit
set_option maxHeartbeats 8000000 in
set_option maxRecDepth 20000 in
theorem i_EditsText (A : Option Addr) (cA : Nat) (W : List Ed6) (w : World) (hl : W.length ≤ 1048576) (hA : Rd w A W) (_hc : W.length ≤ cA) (ht : TabP w) :
    Calls Tryd.prog 7 #[.slice A W.length cA] w fun e w' => e = .returned (.tuple #[.string (etxF W).1, .bool (etxF W).2]) ∧ Gw w w' := by
  have HA := Lib.hid hA
  have HT := Lib.hid ht
  clear hA ht
  go_enter Tryd.func7, Tryd.ntmps7
  go_wp2_with fail
  refine (i_areEdits _ _ _ _ hl HA.out).mono ?_
  rintro _ w1 (⟨hp, rfl, hb1⟩ | ⟨hp, rfl, hb1⟩)
  case inr =>
    have hno := Lib.hid (etxF_bad hp)
    clear hp
    go_wp2_with fail
    go_ret2
    exact ⟨ret_sb hno.out, by (repeat (first | with_reducible exact Gw.refl _ | with_reducible assumption | ((with_reducible refine Gw.set ?_ ?_ _); rotate_left; (focus (first | (simp; done) | (simp; omega) | omega))) | with_reducible refine Gw.alloc ?_ _ | with_reducible refine Gw.drew ?_ | with_reducible refine Gw.drewN ?_ _ | (refine Gw.trans ?_ (by with_reducible assumption))))⟩
  have HF := Lib.hid (etxF_ok hp)
  have HW := Lib.hid (etxF_line hp)
  have HL : Hid (W.length ≤ 30) := hp.2
  clear hp
  have hz1 := hb1.size
  have hB0 := Lib.hid (Bld.new w1 (B := w.heap.size) hz1)
  go_wp2_with fail
  go_loopw [16] (fun q wr => ∃ k : Nat, q = .int .i64 k ∧ k ≤ W.length ∧ Hid (Bld w.heap.size w1.heap.size (cat lineE (W.take k)) wr) ∧ Gw w wr) (fun q _ => W.length - (intOf q).toNat)
  case atStart => exact ⟨0, by go_num, Nat.zero_le _, hB0, by (repeat (first | with_reducible exact Gw.refl _ | with_reducible assumption | ((with_reducible refine Gw.set ?_ ?_ _); rotate_left; (focus (first | (simp; done) | (simp; omega) | omega))) | with_reducible refine Gw.alloc ?_ _ | with_reducible refine Gw.drew ?_ | with_reducible refine Gw.drewN ?_ _ | (refine Gw.trans ?_ (by with_reducible assumption))))⟩
  case round =>
    obtain ⟨k, rfl, hk, hbl, hgw⟩ := hrel
    by_cases hlt : k < W.length
    · obtain ⟨x, hx⟩ := get_of_lt hlt
      obtain ⟨b, off, rfl, hb, c0, c1, c2, c3, c4, c5⟩ := (HA.out.gw hgw).get6 hx
      have hq := HW.out x (mem_of_get hx)
      have hsz : (cat lineE (W.take k)).size ≤ 80 * k := cat_size (fun y hy => lineE_size (HW.out y hy)) k
      have hls := lineE_size hq
      have Hx := Lib.hid (cat_take (f := lineE) hx)
      obtain ⟨x0, x1, x2, x3, x4, x5⟩ := x
      clear hx
      dsimp only [EdR] at hq c0 c1 c2 c3 c4 c5
      have hl20 := HL.out
      have hsum : Hid ((cat lineE (W.take k)).size + (lineE (x0, x1, x2, x3, x4, x5)).size ≤ 1048576) := by unfold Hid; omega
      have hgz := hgw.size
      have hn0 := numS_size (n := x0) (by omega) (by omega)
      have hn1 := numS_size (n := x1) (by omega) (by omega)
      have hs0 := spotS_size hq.2.2.1
      have hs1 := spotS_size hq.2.2.2
      have hp0 : ¬9223372036854775807 < (numS x0).size + 1 := by omega
      have hp1 : ¬9223372036854775807 < (numS x0).size + 1 + (numS x1).size := by omega
      have hp2 : ¬9223372036854775807 < (numS x0).size + 1 + (numS x1).size + 1 := by omega
      have hp3 : ¬9223372036854775807 < (numS x0).size + 1 + (numS x1).size + 1 + (spotS x2 x3).size := by omega
      have hp4 : ¬9223372036854775807 < (numS x0).size + 1 + (numS x1).size + 1 + (spotS x2 x3).size + 1 := by omega
      have hp5 : ¬9223372036854775807 < (numS x0).size + 1 + (numS x1).size + 1 + (spotS x2 x3).size + 1 + (spotS x4 x5).size := by omega
      have hp6 : ¬9223372036854775807 < (numS x0).size + 1 + (numS x1).size + 1 + (spotS x2 x3).size + 1 + (spotS x4 x5).size + 1 := by omega
      have HQ := Lib.hid hq
      have hr0 : 0 ≤ x0 ∧ x0 ≤ 999 := hq.1
      have hr1 : 0 ≤ x1 ∧ x1 ≤ 999 := hq.2.1
      have HBx : Hid (∀ u, Gw (wr.alloc (.cells #[.int .i64 x0, .int .i64 x1, .int .i64 x2, .int .i64 x3, .int .i64 x4, .int .i64 x5] 35)) u → BoxR u wr.heap.size #[.int .i64 x0, .int .i64 x1, .int .i64 x2, .int .i64 x3, .int .i64 x4, .int .i64 x5] 35) := fun u hu => (BoxR.new wr #[.int .i64 x0, .int .i64 x1, .int .i64 x2, .int .i64 x3, .int .i64 x4, .int .i64 x5] 35).gw hu
      have hlt1 := hbl.out.lt
      clear hsz hls hq hn0 hn1 hs0 hs1
      go_wp2_with fail
      refine (i_SpotText _ _ HQ.out.2.2.1 _ (HT.out.gw (by (repeat (first | with_reducible exact Gw.refl _ | with_reducible assumption | ((with_reducible refine Gw.set ?_ ?_ _); rotate_left; (focus (first | (simp; done) | (simp; omega) | omega))) | with_reducible refine Gw.alloc ?_ _ | with_reducible refine Gw.drew ?_ | with_reducible refine Gw.drewN ?_ _ | (refine Gw.trans ?_ (by with_reducible assumption))))))).mono ?_
      rintro _ w2 ⟨rfl, hb2⟩
      have b2 := HBx.out w2 hb2
      have e4 := b2.cell 4 rfl
      have e5 := b2.cell 5 rfl
      go_wp2_with fail
      refine (i_SpotText _ _ HQ.out.2.2.2 _ (HT.out.gw (by (repeat (first | with_reducible exact Gw.refl _ | with_reducible assumption | ((with_reducible refine Gw.set ?_ ?_ _); rotate_left; (focus (first | (simp; done) | (simp; omega) | omega))) | with_reducible refine Gw.alloc ?_ _ | with_reducible refine Gw.drew ?_ | with_reducible refine Gw.drewN ?_ _ | (refine Gw.trans ?_ (by with_reducible assumption))))))).mono ?_
      rintro _ w3 ⟨rfl, hb3⟩
      have hg3 : Gw (wr.alloc (.cells #[.int .i64 x0, .int .i64 x1, .int .i64 x2, .int .i64 x3, .int .i64 x4, .int .i64 x5] 35)) w3 := Gw.trans hb2 hb3
      have hks : ∀ u, Gw w3 u → u.cell? ⟨wr.heap.size, 0, none⟩ = some (.int .i64 x0) ∧ u.cell? ⟨wr.heap.size, 1, none⟩ = some (.int .i64 x1) := fun u hu => by
        have bx := HBx.out u (Gw.trans hg3 hu)
        exact ⟨bx.cell 0 rfl, bx.cell 1 rfl⟩
      have Hks := Lib.hid hks
      have hbl3 := Lib.hid (hbl.out.gw (Gw.trans ((Gw.refl wr).alloc (.cells #[.int .i64 x0, .int .i64 x1, .int .i64 x2, .int .i64 x3, .int .i64 x4, .int .i64 x5] 35)) hg3))
      have hgw3 : Gw w w3 := by (repeat (first | with_reducible exact Gw.refl _ | with_reducible assumption | ((with_reducible refine Gw.set ?_ ?_ _); rotate_left; (focus (first | (simp; done) | (simp; omega) | omega))) | with_reducible refine Gw.alloc ?_ _ | with_reducible refine Gw.drew ?_ | with_reducible refine Gw.drewN ?_ _ | (refine Gw.trans ?_ (by with_reducible assumption))))
      clear hks e4 e5 b2
      go_wp2_with fail
      go_region_held3 (fun u => u.cell? ⟨wr.heap.size, 0, none⟩ = some (.int .i64 x0) ∧ u.cell? ⟨wr.heap.size, 1, none⟩ = some (.int .i64 x1)) (first | with_reducible assumption | exact Hks.out _ (by (repeat (first | with_reducible exact Gw.refl _ | with_reducible assumption | ((with_reducible refine Gw.set ?_ ?_ _); rotate_left; (focus (first | (simp; done) | (simp; omega) | omega))) | with_reducible refine Gw.alloc ?_ _ | with_reducible refine Gw.drew ?_ | with_reducible refine Gw.drewN ?_ _ | (refine Gw.trans ?_ (by with_reducible assumption))))) | go_keep)
        (first
          | (go_at_call 15; refine (i_Itoa _ (by omega) (by omega) _ (HT.out.gw (by (repeat (first | with_reducible exact Gw.refl _ | with_reducible assumption | ((with_reducible refine Gw.set ?_ ?_ _); rotate_left; (focus (first | (simp; done) | (simp; omega) | omega))) | with_reducible refine Gw.alloc ?_ _ | with_reducible refine Gw.drew ?_ | with_reducible refine Gw.drewN ?_ _ | (refine Gw.trans ?_ (by with_reducible assumption))))))).mono ?_; rintro e w5 ⟨rfl, hb5⟩; have hz5 := hb5.size)
          | (go_at_call 14; refine (b_WriteString w.heap.size w1.heap.size (cat lineE (W.take k)) (lineE (x0, x1, x2, x3, x4, x5)) _ (hbl3.out.gw (by (repeat (first | with_reducible exact Gw.refl _ | with_reducible assumption | ((with_reducible refine Gw.set ?_ ?_ _); rotate_left; (focus (first | (simp; done) | (simp; omega) | omega))) | with_reducible refine Gw.alloc ?_ _ | with_reducible refine Gw.drew ?_ | with_reducible refine Gw.drewN ?_ _ | (refine Gw.trans ?_ (by with_reducible assumption)))))) hsum.out (show Gw w _ from (by (repeat (first | with_reducible exact Gw.refl _ | with_reducible assumption | ((with_reducible refine Gw.set ?_ ?_ _); rotate_left; (focus (first | (simp; done) | (simp; omega) | omega))) | with_reducible refine Gw.alloc ?_ _ | with_reducible refine Gw.drew ?_ | with_reducible refine Gw.drewN ?_ _ | (refine Gw.trans ?_ (by with_reducible assumption)))))).size).mono ?_; rintro e w6 ⟨rfl, hb6, hbel6, hoth6⟩; have hx6 := (HBx.out _ (show Gw (wr.alloc (.cells #[.int .i64 x0, .int .i64 x1, .int .i64 x2, .int .i64 x3, .int .i64 x4, .int .i64 x5] 35)) _ from (by (repeat (first | with_reducible exact Gw.refl _ | with_reducible assumption | ((with_reducible refine Gw.set ?_ ?_ _); rotate_left; (focus (first | (simp; done) | (simp; omega) | omega))) | with_reducible refine Gw.alloc ?_ _ | with_reducible refine Gw.drew ?_ | with_reducible refine Gw.drewN ?_ _ | (refine Gw.trans ?_ (by with_reducible assumption))))))).kept hoth6 (by omega) (by decide); have hS6 : w6.cell? ⟨wr.heap.size, 0, none⟩ = some (.int .i64 x0) ∧ w6.cell? ⟨wr.heap.size, 1, none⟩ = some (.int .i64 x1) := ⟨hx6.cell 0 rfl, hx6.cell 1 rfl⟩; have hgw6 : Gw w w6 := Below.trans (show Gw w _ from (by (repeat (first | with_reducible exact Gw.refl _ | with_reducible assumption | ((with_reducible refine Gw.set ?_ ?_ _); rotate_left; (focus (first | (simp; done) | (simp; omega) | omega))) | with_reducible refine Gw.alloc ?_ _ | with_reducible refine Gw.drew ?_ | with_reducible refine Gw.drewN ?_ _ | (refine Gw.trans ?_ (by with_reducible assumption)))))) hbel6))
      all_goals
        go_wp2_with fail
        go_roundw
        case rel => exact ⟨k + 1, by go_num, by omega, by unfold Hid; rw [Hx.out]; exact hb6, hgw6⟩
        case measure => simp [intOf] <;> omega
    · obtain rfl : k = W.length := by omega
      rw [List.take_length] at hbl
      have hgz := hgw.size
      go_wp2_with fail
      refine (b_String w.heap.size w1.heap.size _ _ hbl.out hgz).mono ?_
      rintro _ w7 ⟨rfl, hbel⟩
      have hgw7 : Gw w w7 := Below.trans hgw hbel
      go_wp2_with fail
      go_ret2
      exact ⟨ret_sb HF.out, hgw7⟩

end Go.Proofs.YtoofpajeogllhaaDoor
