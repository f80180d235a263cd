/-
  The text of edits.
-/
import Derived.Test.YtoofpajeogllhaaDoorTextP
import Derived.Test.YtoofpajeogllhaaDoorNumS
import Derived.Test.YtoofpajeogllhaaDoorEdit
import Derived.Test.YtoofpajeogllhaaDoorTell
import Derived.Test.YtoofpajeogllhaaDoorBox
import Derived.Deep.RegionHeld3
namespace Go.Proofs.YtoofpajeogllhaaDoor
open Go.RowKit

theorem cat3 (a b c : ByteArray) : a ++ (b ++ c) = a ++ b ++ c := by
  apply ByteArray.ext
  simp [ByteArray.data_append]
noncomputable def stepS (n : Int) : ByteArray := open Classical in if n % 8 = 0 then numS (n / 8) else numS (n / 8) ++ ⟨#[43]⟩ ++ numS (n % 8)
theorem stepS_whole {n : Int} (h : n % 8 = 0) : stepS n = numS (n / 8) := by unfold stepS; rw [if_pos h]
theorem stepS_part {n : Int} (h : ¬n % 8 = 0) : stepS n = numS (n / 8) ++ ⟨#[43]⟩ ++ numS (n % 8) := by unfold stepS; rw [if_neg h]
theorem stepS_size {n : Int} (h0 : 0 ≤ n) (h1 : n ≤ 9999) : (stepS n).size ≤ 13 := by
  have h2 := numS_size (n := n / 8) (by omega) (by omega)
  have h3 := numS_size (n := n % 8) (by omega) (by omega)
  have e1 : (ByteArray.mk #[43]).size = 1 := rfl
  by_cases h : n % 8 = 0
  · rw [stepS_whole h]; omega
  · rw [stepS_part h]
    simp only [ByteArray.size_append']
    omega
noncomputable def spotS (x y : Int) : ByteArray := stepS x ++ ⟨#[44]⟩ ++ stepS y
theorem spotS_size {x y : Int} (h : SpotP x y) : (spotS x y).size ≤ 27 := by
  have h2 := stepS_size (n := x) (by omega) (by omega)
  have h3 := stepS_size (n := y) (by omega) (by omega)
  have e1 : (ByteArray.mk #[44]).size = 1 := rfl
  unfold spotS
  simp only [ByteArray.size_append']
  omega

set_option maxHeartbeats 2000000 in
set_option maxRecDepth 20000 in
theorem i_stepsText (n : Int) (h0 : 0 ≤ n) (h1 : n ≤ 9999) (w : World) (ht : TabP w) :
    Calls Tryd.prog 24 #[.int .i64 n] w fun e w' => e = .returned (.string (stepS n)) ∧ Gw w w' := by
  have HT := Lib.hid ht
  clear ht
  have ht1 : n.tdiv 8 = n / 8 := Int.tdiv_eq_ediv_of_nonneg h0
  have ht2 : n.tmod 8 = n % 8 := Int.tmod_eq_emod_of_nonneg h0
  have w1 : IntKind.i64.wrap (n / 8) = n / 8 := IntWalk.i64_in _ (by omega)
  have w2 : IntKind.i64.wrap (n % 8) = n % 8 := IntWalk.i64_in _ (by omega)
  have hq := numS_size (n := n / 8) (by omega) (by omega)
  have hr := numS_size (n := n % 8) (by omega) (by omega)
  have hp1 : ¬9223372036854775807 < 1 + (numS (n % 8)).size := by omega
  have hp2 : ¬9223372036854775807 < (numS (n / 8)).size + (1 + (numS (n % 8)).size) := by omega
  by_cases hz : n % 8 = 0
  · have hf := Lib.hid (stepS_whole hz)
    have hz2 : ¬0 < n % 8 := by omega
    go_enter Tryd.func24, Tryd.ntmps24
    go_wp2_with (go_at_call 15; refine (i_Itoa _ (by omega) (by omega) _ (HT.out.gw (by (repeat (first | with_reducible exact Gw.refl _ | with_reducible assumption | ((with_reducible refine Gw.set ?_ ?_ _); rotate_left; (focus (first | (simp; done) | (simp; omega) | omega))) | with_reducible refine Gw.alloc ?_ _ | with_reducible refine Gw.drew ?_ | with_reducible refine Gw.drewN ?_ _ | (refine Gw.trans ?_ (by with_reducible assumption))))))).mono ?_; rintro e w5 ⟨rfl, hb5⟩)
    go_ret
    exact ⟨ret_str hf.out.symm, by (repeat (first | with_reducible exact Gw.refl _ | with_reducible assumption | ((with_reducible refine Gw.set ?_ ?_ _); rotate_left; (focus (first | (simp; done) | (simp; omega) | omega))) | with_reducible refine Gw.alloc ?_ _ | with_reducible refine Gw.drew ?_ | with_reducible refine Gw.drewN ?_ _ | (refine Gw.trans ?_ (by with_reducible assumption))))⟩
  · have hf := Lib.hid (stepS_part hz)
    have hz2 : 0 < n % 8 := by omega
    go_enter Tryd.func24, Tryd.ntmps24
    go_wp2_with (go_at_call 15; refine (i_Itoa _ (by omega) (by omega) _ (HT.out.gw (by (repeat (first | with_reducible exact Gw.refl _ | with_reducible assumption | ((with_reducible refine Gw.set ?_ ?_ _); rotate_left; (focus (first | (simp; done) | (simp; omega) | omega))) | with_reducible refine Gw.alloc ?_ _ | with_reducible refine Gw.drew ?_ | with_reducible refine Gw.drewN ?_ _ | (refine Gw.trans ?_ (by with_reducible assumption))))))).mono ?_; rintro e w5 ⟨rfl, hb5⟩)
    go_ret
    exact ⟨ret_str (by rw [hf.out, cat3]), by (repeat (first | with_reducible exact Gw.refl _ | with_reducible assumption | ((with_reducible refine Gw.set ?_ ?_ _); rotate_left; (focus (first | (simp; done) | (simp; omega) | omega))) | with_reducible refine Gw.alloc ?_ _ | with_reducible refine Gw.drew ?_ | with_reducible refine Gw.drewN ?_ _ | (refine Gw.trans ?_ (by with_reducible assumption))))⟩
set_option maxHeartbeats 2000000 in
set_option maxRecDepth 20000 in
theorem s_stPart (n : Int) (h0 : 0 ≤ n) (h1 : n ≤ 9999) (w : World) :
    Calls Tryd.prog 30 #[.int .i64 n] w fun e w' => e = .returned (.string (stepS n)) ∧ Gw w w' := by
  have ht1 : n.tdiv 8 = n / 8 := Int.tdiv_eq_ediv_of_nonneg h0
  have ht2 : n.tmod 8 = n % 8 := Int.tmod_eq_emod_of_nonneg h0
  have w1 : IntKind.i64.wrap (n / 8) = n / 8 := IntWalk.i64_in _ (by omega)
  have w2 : IntKind.i64.wrap (n % 8) = n % 8 := IntWalk.i64_in _ (by omega)
  have hq := numS_size (n := n / 8) (by omega) (by omega)
  have hr := numS_size (n := n % 8) (by omega) (by omega)
  have hp1 : ¬9223372036854775807 < (numS (n / 8)).size + 1 := by omega
  have hp2 : ¬9223372036854775807 < (numS (n / 8)).size + 1 + (numS (n % 8)).size := by omega
  by_cases hz : n % 8 = 0
  · have hf := Lib.hid (stepS_whole hz)
    have hz2 : (n % 8 == 0) = true := by simp [hz]
    have hn : n / 8 < ((1000000 : Nat) : Int) + 10 := by omega
    clear hz
    go_enter Tryd.func30, Tryd.ntmps30
    go_wp2_with (go_at_call 19; refine (s_l1Num 1000000 _ (by omega) (by omega) (by omega) _).mono ?_; rintro e w5 ⟨rfl, hb5⟩)
    go_ret
    exact ⟨ret_str hf.out.symm, by (repeat (first | with_reducible exact Gw.refl _ | with_reducible assumption | ((with_reducible refine Gw.set ?_ ?_ _); rotate_left; (focus (first | (simp; done) | (simp; omega) | omega))) | with_reducible refine Gw.alloc ?_ _ | with_reducible refine Gw.drew ?_ | with_reducible refine Gw.drewN ?_ _ | (refine Gw.trans ?_ (by with_reducible assumption))))⟩
  · have hf := Lib.hid (stepS_part hz)
    have hz2 : (n % 8 == 0) = false := by simp [hz]
    have hzz : 0 ≤ n % 8 ∧ n % 8 < 8 := by omega
    clear hz
    go_enter Tryd.func30, Tryd.ntmps30
    go_wp2_with (first | (go_at_call 19; refine (s_l1Num 1000000 _ (by omega) (by omega) (by omega) _).mono ?_; rintro e w5 ⟨rfl, hb5⟩) | ((with_reducible refine wp_region_gw (by kernel_rfl) (by kernel_rfl) ?_); have hcq := @GwOf.cell; (repeat (go_big_quiet_step ((go_at_call 19; exact GwOf.call (s_l1Num 1000000 _ (by omega) (by omega) (by omega) _))))); refine wpQuiet_nil ?_; clear hcq; rintro w' ⟨⟨w', hb⟩, rfl⟩; (try dsimp only); have hc := hb.cells; have hf := hb.frozens; have hz := hb.size; (try simp at hz); (try have hz0 : w.heap.size < w'.heap.size := (by omega)); (try have hz1 : w.heap.size + 1 < w'.heap.size := (by omega)); (try have hz2 : w.heap.size + 2 < w'.heap.size := (by omega)); (try have hz3 : w.heap.size + 3 < w'.heap.size := (by omega)); (try have hz4 : w.heap.size + 4 < w'.heap.size := (by omega)); (try have hz5 : w.heap.size + 5 < w'.heap.size := (by omega))))
    go_ret
    exact ⟨ret_str hf.out.symm, by (repeat (first | with_reducible exact Gw.refl _ | with_reducible assumption | ((with_reducible refine Gw.set ?_ ?_ _); rotate_left; (focus (first | (simp; done) | (simp; omega) | omega))) | with_reducible refine Gw.alloc ?_ _ | with_reducible refine Gw.drew ?_ | with_reducible refine Gw.drewN ?_ _ | (refine Gw.trans ?_ (by with_reducible assumption))))⟩
set_option maxHeartbeats 2000000 in
set_option maxRecDepth 20000 in
theorem s_stText (x y : Int) (hP : SpotP x y) (w : World) :
    Calls Tryd.prog 20 #[.agg #[.int .i64 x, .int .i64 y]] w fun e w' => e = .returned (.string (spotS x y)) ∧ Gw w w' := by
  have hq := stepS_size (n := x) (by omega) (by omega)
  have hr := stepS_size (n := y) (by omega) (by omega)
  have hp1 : ¬9223372036854775807 < (stepS x).size + 1 := by omega
  have hp2 : ¬9223372036854775807 < (stepS x).size + 1 + (stepS y).size := by omega
  have hb : (0 ≤ x ∧ x ≤ 9999) ∧ (0 ≤ y ∧ y ≤ 9999) := by omega
  go_enter Tryd.func20, Tryd.ntmps20
  go_wp2_with (first | (go_at_call 30; refine (s_stPart _ (by omega) (by omega) _).mono ?_; rintro e w5 ⟨rfl, hb5⟩) | ((with_reducible refine wp_region_gw (by kernel_rfl) (by kernel_rfl) ?_); have hcq := @GwOf.cell; (repeat (go_big_quiet_step ((go_at_call 30; exact GwOf.call (s_stPart _ (by omega) (by omega) _))))); refine wpQuiet_nil ?_; clear hcq; rintro w' ⟨⟨w', hb⟩, rfl⟩; (try dsimp only); have hc := hb.cells; have hf := hb.frozens; have hz := hb.size; (try simp at hz); (try have hz0 : w.heap.size < w'.heap.size := (by omega)); (try have hz1 : w.heap.size + 1 < w'.heap.size := (by omega)); (try have hz2 : w.heap.size + 2 < w'.heap.size := (by omega)); (try have hz3 : w.heap.size + 3 < w'.heap.size := (by omega)); (try have hz4 : w.heap.size + 4 < w'.heap.size := (by omega)); (try have hz5 : w.heap.size + 5 < w'.heap.size := (by omega))))
  go_ret
  exact ⟨rfl, by (repeat (first | with_reducible exact Gw.refl _ | with_reducible assumption | ((with_reducible refine Gw.set ?_ ?_ _); rotate_left; (focus (first | (simp; done) | (simp; omega) | omega))) | with_reducible refine Gw.alloc ?_ _ | with_reducible refine Gw.drew ?_ | with_reducible refine Gw.drewN ?_ _ | (refine Gw.trans ?_ (by with_reducible assumption))))⟩
set_option maxHeartbeats 2000000 in
set_option maxRecDepth 20000 in
theorem i_SpotText (x y : Int) (hP : SpotP x y) (w : World) (ht : TabP w) :
    Calls Tryd.prog 13 #[.agg #[.int .i64 x, .int .i64 y]] w fun e w' => e = .returned (.tuple #[.string (spotS x y), .bool true]) ∧ Gw w w' := by
  have HT := Lib.hid ht
  clear ht
  have hq := stepS_size (n := x) (by omega) (by omega)
  have hr := stepS_size (n := y) (by omega) (by omega)
  have hp1 : ¬9223372036854775807 < (stepS x).size + 1 := by omega
  have hp2 : ¬9223372036854775807 < (stepS x).size + 1 + (stepS y).size := by omega
  have hb : (0 ≤ x ∧ x ≤ 9999) ∧ (0 ≤ y ∧ y ≤ 9999) := by omega
  have HP := Lib.hid hP
  clear hP
  have bx := BoxR.new w #[.int .i64 x, .int .i64 y] 33
  have Bx := Lib.hid bx
  clear bx
  go_enter Tryd.func13, Tryd.ntmps13
  go_wp2_with fail
  refine ((i_IsSpot _ _ _).mono (tells_bool (b := true) (by simp only [true_iff]; exact HP.out))).mono ?_
  rintro _ w1 ⟨rfl, hb1⟩
  have d0 := (Bx.out.gw hb1).cell 0 rfl
  have d1 := (Bx.out.gw hb1).cell 1 rfl
  have hlt1 : w.heap.size < w1.heap.size := Bx.out.gw hb1 |>.lt
  have HT1 := Lib.hid (HT.out.gw (show Gw w w1 from by (repeat (first | with_reducible exact Gw.refl _ | with_reducible assumption | ((with_reducible refine Gw.set ?_ ?_ _); rotate_left; (focus (first | (simp; done) | (simp; omega) | omega))) | with_reducible refine Gw.alloc ?_ _ | with_reducible refine Gw.drew ?_ | with_reducible refine Gw.drewN ?_ _ | (refine Gw.trans ?_ (by with_reducible assumption))))))
  go_wp2_with ((with_reducible refine wp_region_gw (by kernel_rfl) (by kernel_rfl) ?_); have hcq := @GwOf.cell; (repeat (go_big_quiet_step ((go_at_call 24; exact GwOf.call (i_stepsText _ (by omega) (by omega) _ (HT1.out.gw (GwOf.gw _))))))); refine wpQuiet_nil ?_; clear hcq; rintro w' ⟨⟨w', hb⟩, rfl⟩; (try dsimp only); have hc := hb.cells; have hf := hb.frozens; have hz := hb.size; (try simp at hz); (try have hz0 : w.heap.size < w'.heap.size := (by omega)); (try have hz1 : w.heap.size + 1 < w'.heap.size := (by omega)); (try have hz2 : w.heap.size + 2 < w'.heap.size := (by omega)); (try have hz3 : w.heap.size + 3 < w'.heap.size := (by omega)); (try have hz4 : w.heap.size + 4 < w'.heap.size := (by omega)); (try have hz5 : w.heap.size + 5 < w'.heap.size := (by omega)))
  go_ret2
  exact ⟨rfl, by (repeat (first | with_reducible exact Gw.refl _ | with_reducible assumption | ((with_reducible refine Gw.set ?_ ?_ _); rotate_left; (focus (first | (simp; done) | (simp; omega) | omega))) | with_reducible refine Gw.alloc ?_ _ | with_reducible refine Gw.drew ?_ | with_reducible refine Gw.drewN ?_ _ | (refine Gw.trans ?_ (by with_reducible assumption))))⟩

abbrev Ed6 := (Int × Int × Int × Int × Int × Int)
noncomputable def lineE (x : Ed6) : ByteArray := numS x.1 ++ ⟨#[32]⟩ ++ numS x.2.1 ++ ⟨#[32]⟩ ++ spotS x.2.2.1 x.2.2.2.1 ++ ⟨#[32]⟩ ++ spotS x.2.2.2.2.1 x.2.2.2.2.2 ++ ⟨#[10]⟩
abbrev EdR (x : Ed6) : Prop := (0 ≤ x.1 ∧ x.1 ≤ 999) ∧ (0 ≤ x.2.1 ∧ x.2.1 ≤ 999) ∧ SpotP x.2.2.1 x.2.2.2.1 ∧ SpotP x.2.2.2.2.1 x.2.2.2.2.2
theorem lineE_size {x : Ed6} (h : EdR x) : (lineE x).size ≤ 80 := by
  have h1 := numS_size (n := x.1) (by omega) (by omega)
  have h2 := numS_size (n := x.2.1) (by omega) (by omega)
  have h3 := spotS_size h.2.2.1
  have h4 := spotS_size h.2.2.2
  unfold lineE
  simp only [ByteArray.size_append']
  have e1 : (ByteArray.mk #[32]).size = 1 := rfl
  have e2 : (ByteArray.mk #[10]).size = 1 := rfl
  omega
noncomputable def etxF (W : List Ed6) : ByteArray × Bool := open Classical in if EditsP W then (cat lineE W, true) else (⟨#[]⟩, false)
theorem etxF_bad {W : List Ed6} (h : ¬EditsP W) : etxF W = (⟨#[]⟩, false) := by unfold etxF; rw [if_neg h]
theorem etxF_ok {W : List Ed6} (h : EditsP W) : etxF W = (cat lineE W, true) := by unfold etxF; rw [if_pos h]
theorem etxF_line {W : List Ed6} (h : EditsP W) : ∀ x ∈ W, EdR x := fun x hx => by
  have h1 := h.1 x hx
  exact ⟨by omega, by omega, h1.2.2.1.1, h1.2.2.1.2⟩
end Go.Proofs.YtoofpajeogllhaaDoor
