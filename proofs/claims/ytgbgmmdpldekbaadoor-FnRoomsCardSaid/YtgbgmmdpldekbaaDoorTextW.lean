/-
  The program's text of windows.
-/
import Derived.Test.YtgbgmmdpldekbaaDoorTextP
import Derived.Test.YtgbgmmdpldekbaaDoorNumS
import Derived.Test.YtgbgmmdpldekbaaDoorWin
import Derived.Test.YtgbgmmdpldekbaaDoorBox
import Derived.Deep.RegionHeld3
namespace Go.Proofs.YtgbgmmdpldekbaaDoor
open Go.RowKit

def lineW (x : (Int × Int × Int)) : ByteArray := numS x.1 ++ ⟨#[32]⟩ ++ numS x.2.1 ++ ⟨#[32]⟩ ++ numS x.2.2 ++ ⟨#[10]⟩
theorem lineW_size {x : (Int × Int × Int)} (h : (0 ≤ x.1 ∧ x.1 ≤ 999) ∧ (0 ≤ x.2.1 ∧ x.2.1 ≤ 999) ∧ (0 ≤ x.2.2 ∧ x.2.2 ≤ 999)) : (lineW x).size ≤ 28 := by
  have h1 := numS_size (n := x.1) (by omega) (by omega)
  have h2 := numS_size (n := x.2.1) (by omega) (by omega)
  have h3 := numS_size (n := x.2.2) (by omega) (by omega)
  unfold lineW
  simp only [ByteArray.size_append']
  have e1 : (ByteArray.mk #[32]).size = 1 := rfl
  have e2 : (ByteArray.mk #[10]).size = 1 := rfl
  omega
noncomputable def wtxF (W : List (Int × Int × Int)) : ByteArray × Bool := open Classical in if WinsP W then (cat lineW W, true) else (⟨#[]⟩, false)
theorem wtxF_bad {W : List (Int × Int × Int)} (h : ¬WinsP W) : wtxF W = (⟨#[]⟩, false) := by unfold wtxF; rw [if_neg h]
theorem wtxF_ok {W : List (Int × Int × Int)} (h : WinsP W) : wtxF W = (cat lineW W, true) := by unfold wtxF; rw [if_pos h]
theorem wtxF_line {W : List (Int × Int × Int)} (h : WinsP W) : ∀ x ∈ W, (0 ≤ x.1 ∧ x.1 ≤ 999) ∧ (0 ≤ x.2.1 ∧ x.2.1 ≤ 999) ∧ (0 ≤ x.2.2 ∧ x.2.2 ≤ 999) := fun x hx => by have h1 := h.1 x hx; omega

set_option maxHeartbeats 4000000 in
set_option maxRecDepth 20000 in
theorem i_WindowsText (A : Option Addr) (cA : Nat) (W : List (Int × Int × Int)) (w : World) (hl : W.length ≤ 1048576) (hA : Rd w A W) (hc : W.length ≤ cA) (ht : TabP w) :
    Calls Tryd.prog 37 #[.slice A W.length cA] w fun e w' => e = .returned (.tuple #[.string (wtxF W).1, .bool (wtxF W).2]) ∧ Gw w w' := by
  have HA := Lib.hid hA
  have HT := Lib.hid ht
  clear hA ht
  go_enter Tryd.func37, Tryd.ntmps37
  go_wp2_with fail
  refine (i_AreWindows _ _ _ _ hl HA.out).mono ?_
  rintro _ w1 (⟨hp, rfl, hb1⟩ | ⟨hp, rfl, hb1⟩)
  case inr =>
    have hno := Lib.hid (wtxF_bad hp)
    clear hp
    go_wp2_with fail
    go_ret2
    exact ⟨ret_sb hno.out, by (repeat (first | with_reducible exact Gw.refl _ | with_reducible assumption | ((with_reducible refine Gw.set ?_ ?_ _); rotate_left; (focus (first | (simp; done) | (simp; omega) | omega))) | with_reducible refine Gw.alloc ?_ _ | with_reducible refine Gw.drew ?_ | with_reducible refine Gw.drewN ?_ _ | (refine Gw.trans ?_ (by with_reducible assumption))))⟩
  have HF := Lib.hid (wtxF_ok hp)
  have HW := Lib.hid (wtxF_line hp)
  have HL : Hid (W.length ≤ 20) := hp.2.2
  clear hp
  have hz1 := hb1.size
  have hB0 := Lib.hid (Bld.new w1 (B := w.heap.size) hz1)
  go_wp2_with fail
  go_loopw [12] (fun q wr => ∃ k : Nat, q = .int .i64 k ∧ k ≤ W.length ∧ Hid (Bld w.heap.size w1.heap.size (cat lineW (W.take k)) wr) ∧ Gw w wr) (fun q _ => W.length - (intOf q).toNat)
  case atStart => exact ⟨0, by go_num, Nat.zero_le _, hB0, by (repeat (first | with_reducible exact Gw.refl _ | with_reducible assumption | ((with_reducible refine Gw.set ?_ ?_ _); rotate_left; (focus (first | (simp; done) | (simp; omega) | omega))) | with_reducible refine Gw.alloc ?_ _ | with_reducible refine Gw.drew ?_ | with_reducible refine Gw.drewN ?_ _ | (refine Gw.trans ?_ (by with_reducible assumption))))⟩
  case round =>
    obtain ⟨k, rfl, hk, hbl, hgw⟩ := hrel
    by_cases hlt : k < W.length
    · obtain ⟨x, hx⟩ := get_of_lt hlt
      obtain ⟨b, off, rfl, hb, c0, c1, c2⟩ := (HA.out.gw hgw).get3 hx
      have hq := HW.out x (mem_of_get hx)
      have hsz : (cat lineW (W.take k)).size ≤ 28 * k := cat_size (fun y hy => lineW_size (HW.out y hy)) k
      have hls := lineW_size hq
      have Hx := Lib.hid (cat_take (f := lineW) hx)
      obtain ⟨x0, x1, x2⟩ := x
      clear hx
      dsimp only at hq c0 c1 c2
      have hl20 := HL.out
      have hsum : Hid ((cat lineW (W.take k)).size + (lineW (x0, x1, x2)).size ≤ 1048576) := by unfold Hid; omega
      have hgz := hgw.size
      have hn0 := numS_size (n := x0) (by omega) (by omega); have hn1 := numS_size (n := x1) (by omega) (by omega); have hn2 := numS_size (n := x2) (by omega) (by omega)
      have hp0 : ¬9223372036854775807 < (numS x0).size + 1 := (by omega); have hp1 : ¬9223372036854775807 < (numS x0).size + 1 + (numS x1).size := (by omega); have hp2 : ¬9223372036854775807 < (numS x0).size + 1 + (numS x1).size + 1 := (by omega); have hp3 : ¬9223372036854775807 < (numS x0).size + 1 + (numS x1).size + 1 + (numS x2).size := (by omega); have hp4 : ¬9223372036854775807 < (numS x0).size + 1 + (numS x1).size + 1 + (numS x2).size + 1 := (by omega)
      have hks : ∀ u, Gw (wr.alloc (.cells #[.int .i64 x0, .int .i64 x1, .int .i64 x2] 68)) u → u.cell? ⟨wr.heap.size, 0, none⟩ = some (.int .i64 x0) ∧ u.cell? ⟨wr.heap.size, 1, none⟩ = some (.int .i64 x1) ∧ u.cell? ⟨wr.heap.size, 2, none⟩ = some (.int .i64 x2) := fun u hu => by
        have bx := (BoxR.new wr #[.int .i64 x0, .int .i64 x1, .int .i64 x2] 68).gw hu
        exact ⟨bx.cell 0 rfl, bx.cell 1 rfl, bx.cell 2 rfl⟩
      have HBx : Hid (∀ u, Gw (wr.alloc (.cells #[.int .i64 x0, .int .i64 x1, .int .i64 x2] 68)) u → BoxR u wr.heap.size #[.int .i64 x0, .int .i64 x1, .int .i64 x2] 68) := fun u hu => (BoxR.new wr #[.int .i64 x0, .int .i64 x1, .int .i64 x2] 68).gw hu
      have hlt1 := hbl.out.lt
      have Hks := Lib.hid hks
      clear hks hsz hls
      go_wp2_with fail
      go_region_held3 (fun u => u.cell? ⟨wr.heap.size, 0, none⟩ = some (.int .i64 x0) ∧ u.cell? ⟨wr.heap.size, 1, none⟩ = some (.int .i64 x1) ∧ u.cell? ⟨wr.heap.size, 2, none⟩ = some (.int .i64 x2)) (first | with_reducible assumption | exact Hks.out _ (by (repeat (first | with_reducible exact Gw.refl _ | with_reducible assumption | ((with_reducible refine Gw.set ?_ ?_ _); rotate_left; (focus (first | (simp; done) | (simp; omega) | omega))) | with_reducible refine Gw.alloc ?_ _ | with_reducible refine Gw.drew ?_ | with_reducible refine Gw.drewN ?_ _ | (refine Gw.trans ?_ (by with_reducible assumption))))) | go_keep)
        (first
          | (go_at_call 55; refine (i_Itoa _ (by omega) (by omega) _ (HT.out.gw (by (repeat (first | with_reducible exact Gw.refl _ | with_reducible assumption | ((with_reducible refine Gw.set ?_ ?_ _); rotate_left; (focus (first | (simp; done) | (simp; omega) | omega))) | with_reducible refine Gw.alloc ?_ _ | with_reducible refine Gw.drew ?_ | with_reducible refine Gw.drewN ?_ _ | (refine Gw.trans ?_ (by with_reducible assumption))))))).mono ?_; rintro e w5 ⟨rfl, hb5⟩; have hz5 := hb5.size)
          | (go_at_call 54; refine (b_WriteString w.heap.size w1.heap.size (cat lineW (W.take k)) (lineW (x0, x1, x2)) _ (hbl.out.gw (by (repeat (first | with_reducible exact Gw.refl _ | with_reducible assumption | ((with_reducible refine Gw.set ?_ ?_ _); rotate_left; (focus (first | (simp; done) | (simp; omega) | omega))) | with_reducible refine Gw.alloc ?_ _ | with_reducible refine Gw.drew ?_ | with_reducible refine Gw.drewN ?_ _ | (refine Gw.trans ?_ (by with_reducible assumption)))))) hsum.out (show Gw w _ from (by (repeat (first | with_reducible exact Gw.refl _ | with_reducible assumption | ((with_reducible refine Gw.set ?_ ?_ _); rotate_left; (focus (first | (simp; done) | (simp; omega) | omega))) | with_reducible refine Gw.alloc ?_ _ | with_reducible refine Gw.drew ?_ | with_reducible refine Gw.drewN ?_ _ | (refine Gw.trans ?_ (by with_reducible assumption)))))).size).mono ?_; rintro e w6 ⟨rfl, hb6, hbel6, hoth6⟩; have hx6 := (HBx.out _ (show Gw (wr.alloc (.cells #[.int .i64 x0, .int .i64 x1, .int .i64 x2] 68)) _ from (by (repeat (first | with_reducible exact Gw.refl _ | with_reducible assumption | ((with_reducible refine Gw.set ?_ ?_ _); rotate_left; (focus (first | (simp; done) | (simp; omega) | omega))) | with_reducible refine Gw.alloc ?_ _ | with_reducible refine Gw.drew ?_ | with_reducible refine Gw.drewN ?_ _ | (refine Gw.trans ?_ (by with_reducible assumption))))))).kept hoth6 (by omega) (by decide); have hS6 : w6.cell? ⟨wr.heap.size, 0, none⟩ = some (.int .i64 x0) ∧ w6.cell? ⟨wr.heap.size, 1, none⟩ = some (.int .i64 x1) ∧ w6.cell? ⟨wr.heap.size, 2, none⟩ = some (.int .i64 x2) := ⟨hx6.cell 0 rfl, hx6.cell 1 rfl, hx6.cell 2 rfl⟩; have hgw6 : Gw w w6 := Below.trans (show Gw w _ from (by (repeat (first | with_reducible exact Gw.refl _ | with_reducible assumption | ((with_reducible refine Gw.set ?_ ?_ _); rotate_left; (focus (first | (simp; done) | (simp; omega) | omega))) | with_reducible refine Gw.alloc ?_ _ | with_reducible refine Gw.drew ?_ | with_reducible refine Gw.drewN ?_ _ | (refine Gw.trans ?_ (by with_reducible assumption)))))) hbel6))
      all_goals
        go_wp2_with fail
        go_roundw
        case rel => exact ⟨k + 1, by go_num, by omega, by unfold Hid; rw [Hx.out]; exact hb6, hgw6⟩
        case measure => simp [intOf] <;> omega
    · obtain rfl : k = W.length := by omega
      rw [List.take_length] at hbl
      have hgz := hgw.size
      go_wp2_with fail
      refine (b_String w.heap.size w1.heap.size _ _ hbl.out hgz).mono ?_
      rintro _ w7 ⟨rfl, hbel⟩
      have hgw7 : Gw w w7 := Below.trans hgw hbel
      go_wp2_with fail
      go_ret2
      exact ⟨ret_sb HF.out, hgw7⟩

set_option maxHeartbeats 4000000 in
set_option maxRecDepth 20000 in
theorem s_wnText (A : Option Addr) (cA : Nat) (W : List (Int × Int × Int)) (w : World) (hl : W.length ≤ 20) (hA : Rd w A W) (hP : ∀ x ∈ W, (0 ≤ x.1 ∧ x.1 ≤ 999) ∧ (0 ≤ x.2.1 ∧ x.2.1 ≤ 999) ∧ (0 ≤ x.2.2 ∧ x.2.2 ≤ 999)) :
    Calls Tryd.prog 79 #[.slice A W.length cA] w fun e w' => e = .returned (.string (cat lineW W)) ∧ Gw w w' := by
  have HA := Lib.hid hA
  have HW := Lib.hid hP
  have HL := Lib.hid hl
  clear hA hP
  go_enter Tryd.func79, Tryd.ntmps79
  go_wp2_with fail
  go_loopw [3, 8] (fun tq q wr => ∃ (k : Nat) (s : ByteArray), q = .int .i64 k ∧ tq = .string s ∧ k ≤ W.length ∧ Hid (s = cat lineW (W.take k)) ∧ Gw w wr) (fun _ q _ => W.length - (intOf q).toNat)
  case atStart => exact ⟨0, ⟨#[]⟩, by go_num, rfl, Nat.zero_le _, rfl, by (repeat (first | with_reducible exact Gw.refl _ | with_reducible assumption | ((with_reducible refine Gw.set ?_ ?_ _); rotate_left; (focus (first | (simp; done) | (simp; omega) | omega))) | with_reducible refine Gw.alloc ?_ _ | with_reducible refine Gw.drew ?_ | with_reducible refine Gw.drewN ?_ _ | (refine Gw.trans ?_ (by with_reducible assumption))))⟩
  case round =>
    obtain ⟨k, s, rfl, rfl, hk, hs, hgw⟩ := hrel
    by_cases hlt : k < W.length
    · obtain ⟨x, hx⟩ := get_of_lt hlt
      obtain ⟨b, off, rfl, hb, c0, c1, c2⟩ := (HA.out.gw hgw).get3 hx
      have hq := HW.out x (mem_of_get hx)
      have hsz : (cat lineW (W.take k)).size ≤ 28 * k := cat_size (fun y hy => lineW_size (HW.out y hy)) k
      rw [← hs.out] at hsz
      have Hx := Lib.hid (cat_take (f := lineW) hx)
      obtain ⟨x0, x1, x2⟩ := x
      clear hx
      dsimp only at hq c0 c1 c2
      have hl20 := HL.out
      have hn0 := numS_size (n := x0) (by omega) (by omega); have hn1 := numS_size (n := x1) (by omega) (by omega); have hn2 := numS_size (n := x2) (by omega) (by omega)
      have hp0 : ¬9223372036854775807 < (numS x0).size + 1 := (by omega); have hp1 : ¬9223372036854775807 < (numS x0).size + 1 + (numS x1).size := (by omega); have hp2 : ¬9223372036854775807 < (numS x0).size + 1 + (numS x1).size + 1 := (by omega); have hp3 : ¬9223372036854775807 < (numS x0).size + 1 + (numS x1).size + 1 + (numS x2).size := (by omega); have hp4 : ¬9223372036854775807 < (numS x0).size + 1 + (numS x1).size + 1 + (numS x2).size + 1 := (by omega)
      have hpz : ¬9223372036854775807 < s.size + ((numS x0).size + 1 + (numS x1).size + 1 + (numS x2).size + 1) := by omega
      have hl0 : x0 < ((1000000 : Nat) : Int) + 10 ∧ x1 < ((1000000 : Nat) : Int) + 10 ∧ x2 < ((1000000 : Nat) : Int) + 10 := by omega
      clear hsz
      go_wp2_with ((with_reducible refine wp_region_gw (by kernel_rfl) (by kernel_rfl) ?_); have hcq := @GwOf.cell; (repeat (go_big_quiet_step ((go_at_call 57; exact GwOf.call (s_l1Num 1000000 _ (by omega) (by omega) (by omega) _))))); refine wpQuiet_nil ?_; clear hcq; rintro w' ⟨⟨w', hb⟩, rfl⟩; (try dsimp only); have hc := hb.cells; have hf := hb.frozens; have hz := hb.size; (try simp at hz); (try have hz0 : w.heap.size < w'.heap.size := (by omega)); (try have hz1 : w.heap.size + 1 < w'.heap.size := (by omega)); (try have hz2 : w.heap.size + 2 < w'.heap.size := (by omega)); (try have hz3 : w.heap.size + 3 < w'.heap.size := (by omega)); (try have hz4 : w.heap.size + 4 < w'.heap.size := (by omega)); (try have hz5 : w.heap.size + 5 < w'.heap.size := (by omega)))
      go_roundw
      case rel => exact ⟨k + 1, _, by go_num, rfl, by omega, by unfold Hid; rw [Hx.out, ← hs.out]; rfl, by (repeat (first | with_reducible exact Gw.refl _ | with_reducible assumption | ((with_reducible refine Gw.set ?_ ?_ _); rotate_left; (focus (first | (simp; done) | (simp; omega) | omega))) | with_reducible refine Gw.alloc ?_ _ | with_reducible refine Gw.drew ?_ | with_reducible refine Gw.drewN ?_ _ | (refine Gw.trans ?_ (by with_reducible assumption))))⟩
      case measure => simp [intOf] <;> omega
    · obtain rfl : k = W.length := by omega
      rw [List.take_length] at hs
      have hs' := hs.out
      subst hs'
      go_wp2_with fail
      go_ret
      exact ⟨rfl, hgw⟩

set_option maxHeartbeats 4000000 in
theorem s_WindowsText (A : Option Addr) (cA : Nat) (W : List (Int × Int × Int)) (w : World) (hl : W.length ≤ 1048576) (hA : Rd w A W) (_hc : W.length ≤ cA) (_ht : TabP w) :
    Calls Tryd.prog 38 #[.slice A W.length cA] w fun e w' => e = .returned (.tuple #[.string (wtxF W).1, .bool (wtxF W).2]) ∧ Gw w w' := by
  go_enter Tryd.func38, Tryd.ntmps38
  go_wp2_with fail
  refine (s_wnGood _ _ _ _ hl hA).mono ?_
  rintro _ w1 (⟨hp, rfl, hb1⟩ | ⟨hp, rfl, hb1⟩)
  case inr =>
    have hno := Lib.hid (wtxF_bad hp)
    clear hp
    go_wp2_with fail
    go_ret2
    exact ⟨ret_sb hno.out, by (repeat (first | with_reducible exact Gw.refl _ | with_reducible assumption | ((with_reducible refine Gw.set ?_ ?_ _); rotate_left; (focus (first | (simp; done) | (simp; omega) | omega))) | with_reducible refine Gw.alloc ?_ _ | with_reducible refine Gw.drew ?_ | with_reducible refine Gw.drewN ?_ _ | (refine Gw.trans ?_ (by with_reducible assumption))))⟩
  have HF := Lib.hid (wtxF_ok hp)
  have HW := Lib.hid (wtxF_line hp)
  have HL : Hid (W.length ≤ 20) := hp.2.2
  clear hp
  go_wp2_with fail
  refine (s_wnText _ _ _ _ HL.out (hA.gw (by (repeat (first | with_reducible exact Gw.refl _ | with_reducible assumption | ((with_reducible refine Gw.set ?_ ?_ _); rotate_left; (focus (first | (simp; done) | (simp; omega) | omega))) | with_reducible refine Gw.alloc ?_ _ | with_reducible refine Gw.drew ?_ | with_reducible refine Gw.drewN ?_ _ | (refine Gw.trans ?_ (by with_reducible assumption)))))) HW.out).mono ?_
  rintro _ w2 ⟨rfl, hb2⟩
  go_wp2_with fail
  go_ret2
  exact ⟨ret_sb HF.out, by (repeat (first | with_reducible exact Gw.refl _ | with_reducible assumption | ((with_reducible refine Gw.set ?_ ?_ _); rotate_left; (focus (first | (simp; done) | (simp; omega) | omega))) | with_reducible refine Gw.alloc ?_ _ | with_reducible refine Gw.drew ?_ | with_reducible refine Gw.drewN ?_ _ | (refine Gw.trans ?_ (by with_reducible assumption))))⟩
end Go.Proofs.YtgbgmmdpldekbaaDoor
