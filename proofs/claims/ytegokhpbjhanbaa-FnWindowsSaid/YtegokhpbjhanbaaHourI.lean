/-
  The program's functions over a table of hours.
-/
import Derived.Test.YtegokhpbjhanbaaHour
import Derived.Test.YtegokhpbjhanbaaBook
import Derived.Test.YtegokhpbjhanbaaEarl
namespace Go.Proofs.Ytegokhpbjhanbaa
open Go.RowKit

theorem tabOf_snoc {W : List W3} {p f t : Nat} : tabOf (W ++ [((p : Int), (f : Int), (t : Int))]) = setT (tabOf W) p f t true := by
  have h := tabOf_take (W := W ++ [((p : Int), (f : Int), (t : Int))]) (k := W.length) (p := p) (f := f) (t := t) (by simp)
  rw [List.take_of_length_le (by simp), List.take_append_of_le_length (Nat.le_refl _), List.take_length] at h
  exact h
theorem tabOf_zero {W : List W3} (h : WinsP W) (k : Nat) : tabOf W 0 k = false := by
  unfold tabOf
  rw [List.any_eq_false]
  intro x hx
  have := h.1 x hx
  simp
  omega
noncomputable def addF (W : List W3) (a b c : Int) : List W3 × Bool := open Classical in if WinsP W ∧ WinP a b c then winF (tabOf (W ++ [(a, b, c)])) else ([], false)
theorem addF_bad {W : List W3} {a b c : Int} (h : ¬(WinsP W ∧ WinP a b c)) : addF W a b c = ([], false) := by unfold addF; rw [if_neg h]
theorem addF_ok {W : List W3} {a b c : Int} (h : WinsP W ∧ WinP a b c) : addF W a b c = winF (tabOf (W ++ [(a, b, c)])) := by unfold addF; rw [if_pos h]
def closeT (T : Nat → Nat → Bool) (f t : Int) : Nat → Nat → Bool := fun p h => T p h && !decide (f ≤ (h : Int) ∧ (h : Int) < t)
noncomputable def closeF (W : List W3) (f t : Int) : List W3 × Bool := open Classical in if WinsP W ∧ 0 ≤ f ∧ f < t ∧ t ≤ 168 then winF (closeT (tabOf W) f t) else ([], false)
theorem closeF_bad {W : List W3} {f t : Int} (h : ¬(WinsP W ∧ 0 ≤ f ∧ f < t ∧ t ≤ 168)) : closeF W f t = ([], false) := by unfold closeF; rw [if_neg h]
theorem closeF_ok {W : List W3} {f t : Int} (h : WinsP W ∧ 0 ≤ f ∧ f < t ∧ t ≤ 168) : closeF W f t = winF (closeT (tabOf W) f t) := by unfold closeF; rw [if_pos h]
theorem winF_ext {T U : Nat → Nat → Bool} (h : ∀ p, p < 10 → ∀ k, k < 168 → T p k = U p k) : winF T = winF U := by
  unfold winF
  rw [wtab_ext h]
def closeTo (T : Nat → Nat → Bool) (f t k : Nat) : Nat → Nat → Bool := fun p h => if 1 ≤ p ∧ p < k ∧ f ≤ h ∧ h < t then false else T p h
theorem closeTo_one (T : Nat → Nat → Bool) (f t : Nat) : closeTo T f t 1 = T := by
  funext p h
  unfold closeTo
  rw [if_neg (by omega)]
theorem closeTo_next (T : Nat → Nat → Bool) (f t k : Nat) (hk : 1 ≤ k) : closeTo T f t (k + 1) = setT (closeTo T f t k) k f t false := by
  funext p h
  unfold closeTo setT
  dsimp only
  by_cases h1 : p = k ∧ f ≤ h ∧ h < t
  · rw [if_pos h1, if_pos (by omega)]
  · rw [if_neg h1]
    by_cases h2 : 1 ≤ p ∧ p < k ∧ f ≤ h ∧ h < t
    · rw [if_pos h2, if_pos (by omega)]
    · rw [if_neg h2, if_neg (by omega)]
theorem closeTo_all {T : Nat → Nat → Bool} {f t : Nat} (h0 : ∀ h, T 0 h = false) : winF (closeTo T f t 10) = winF (closeT T f t) := by
  refine winF_ext fun p hp k hk => ?_
  unfold closeTo closeT
  by_cases h2 : 1 ≤ p ∧ p < 10 ∧ f ≤ k ∧ k < t
  · rw [if_pos h2, show decide ((f : Int) ≤ (k : Int) ∧ (k : Int) < (t : Int)) = true by simp; omega]
    simp
  · rw [if_neg h2]
    by_cases e : p = 0
    · subst e
      simp [h0]
    · rw [show decide ((f : Int) ≤ (k : Int) ∧ (k : Int) < (t : Int)) = false by simp; omega]
      simp
theorem closeTo_zero {T : Nat → Nat → Bool} {f t k : Nat} (h0 : ∀ h, T 0 h = false) (h : Nat) : closeTo T f t k 0 h = false := by
  unfold closeTo
  rw [if_neg (by omega)]
  exact h0 h

theorem winF_len (T : Nat → Nat → Bool) : (winF T).1.length ≤ 1048576 := by
  unfold winF
  split
  · dsimp only; omega
  · simp
theorem addF_len (W : List W3) (a b c : Int) : (addF W a b c).1.length ≤ 1048576 := by
  unfold addF
  split
  · exact winF_len _
  · simp
theorem closeF_len (W : List W3) (f t : Int) : (closeF W f t).1.length ≤ 1048576 := by
  unfold closeF
  split
  · exact winF_len _
  · simp

set_option maxHeartbeats 4000000 in
theorem i_AddWindow (A : Option Addr) (cA : Nat) (W : List W3) (a b c : Int) (w : World) (hl : W.length ≤ 1048576) (hA : Rd w A W) (_hc : W.length ≤ cA) :
    Calls Try.prog 14 #[.slice A W.length cA, .agg #[.int .i64 a, .int .i64 b, .int .i64 c]] w fun e w' => ∃ A c', e = .returned (.tuple #[.slice A (addF W a b c).1.length c', .bool (addF W a b c).2]) ∧
      w'.ownsRow w.heap.size 30 3 (.slice A (addF W a b c).1.length c') (addF W a b c).1.length (flat (addF W a b c).1) ∧ Gw w w' := by
  have HA := Lib.hid hA
  clear hA
  go_enter Try.func14, Try.ntmps14
  go_wp2_with fail
  refine (i_AreWindows _ _ _ _ hl (HA.out.gw (by (repeat (first | with_reducible exact Gw.refl _ | with_reducible assumption | ((with_reducible refine Gw.set ?_ ?_ _); rotate_left; (focus (first | (simp; done) | (simp; omega) | omega))) | with_reducible refine Gw.alloc ?_ _ | with_reducible refine Gw.drew ?_ | with_reducible refine Gw.drewN ?_ _ | (refine Gw.trans ?_ (by with_reducible assumption))))))).mono ?_
  rintro _ w1 (⟨hp, rfl, hb1⟩ | ⟨hp, rfl, hb1⟩)
  case inr =>
    have hno := Lib.hid (addF_bad (W := W) (a := a) (b := b) (c := c) (fun h => hp h.1))
    clear hp
    go_wp2_with fail
    go_ret2
    exact ⟨none, 0, ret_lb (A := none) (c := 0) hno.out, by rw [hno.out]; exact World.ownsRow_nil _ _ _ _, by (repeat (first | with_reducible exact Gw.refl _ | with_reducible assumption | ((with_reducible refine Gw.set ?_ ?_ _); rotate_left; (focus (first | (simp; done) | (simp; omega) | omega))) | with_reducible refine Gw.alloc ?_ _ | with_reducible refine Gw.drew ?_ | with_reducible refine Gw.drewN ?_ _ | (refine Gw.trans ?_ (by with_reducible assumption))))⟩
  have HW := Lib.hid hp
  clear hp
  have hz1 := hb1.size
  simp at hz1
  have hc1 := hb1.cells
  by_cases hx : WinP a b c
  case neg =>
    have hno := Lib.hid (addF_bad (W := W) (a := a) (b := b) (c := c) (fun h => hx h.2))
    have Hx := Lib.hid hx
    clear hx
    go_wp2_with fail
    refine ((i_isWindow _ _ _ _).mono (tells_bool (b := false) (by simp only [Bool.false_eq_true, false_iff]; exact Hx.out))).mono ?_
    rintro _ w2 ⟨rfl, hb2⟩
    go_wp2_with fail
    go_ret2
    exact ⟨none, 0, ret_lb (A := none) (c := 0) hno.out, by rw [hno.out]; exact World.ownsRow_nil _ _ _ _, by (repeat (first | with_reducible exact Gw.refl _ | with_reducible assumption | ((with_reducible refine Gw.set ?_ ?_ _); rotate_left; (focus (first | (simp; done) | (simp; omega) | omega))) | with_reducible refine Gw.alloc ?_ _ | with_reducible refine Gw.drew ?_ | with_reducible refine Gw.drewN ?_ _ | (refine Gw.trans ?_ (by with_reducible assumption))))⟩
  have HF := Lib.hid (addF_ok ⟨HW.out, hx⟩)
  have HX := Lib.hid hx
  obtain ⟨p, f, t, he, h1, h2, h3, h4⟩ := winP_nat (x := (a, b, c)) hx
  clear hx
  obtain ⟨rfl, rfl, rfl⟩ : a = (p : Int) ∧ b = (f : Int) ∧ c = (t : Int) := by simpa using he
  clear he
  go_wp2_with fail
  refine ((i_isWindow _ _ _ _).mono (tells_bool (b := true) (by simp only [true_iff]; exact HX.out))).mono ?_
  rintro _ w2 ⟨rfl, hb2⟩
  have hz2 := hb2.size
  have hc2 := hb2.cells
  go_wp2_with fail
  refine (i_tableOf _ _ _ _ hl (HA.out.gw (by (repeat (first | with_reducible exact Gw.refl _ | with_reducible assumption | ((with_reducible refine Gw.set ?_ ?_ _); rotate_left; (focus (first | (simp; done) | (simp; omega) | omega))) | with_reducible refine Gw.alloc ?_ _ | with_reducible refine Gw.drew ?_ | with_reducible refine Gw.drewN ?_ _ | (refine Gw.trans ?_ (by with_reducible assumption)))))) HW.out).mono ?_
  rintro _ w3 ⟨rfl, htab, hb3⟩
  have hz3 := hb3.size
  have hlt3 := htab.lt
  have bx := (BoxR.new w #[.int .i64 (p : Int), .int .i64 (f : Int), .int .i64 (t : Int)] 30).gw (Gw.trans hb1 (Gw.trans hb2 hb3))
  have x0 := bx.cell 0 rfl
  have x1 := bx.cell 1 rfl
  have x2 := bx.cell 2 rfl
  clear bx hc1 hc2
  go_wp2_with fail
  refine (i_set w2.heap.size p f t true _ _ h2 (by omega) h4 htab).mono ?_
  rintro _ w4 ⟨rfl, htab4, hg4⟩
  have hgw4 : Gw w w4 := hg4 w (by (repeat (first | with_reducible exact Gw.refl _ | with_reducible assumption | ((with_reducible refine Gw.set ?_ ?_ _); rotate_left; (focus (first | (simp; done) | (simp; omega) | omega))) | with_reducible refine Gw.alloc ?_ _ | with_reducible refine Gw.drew ?_ | with_reducible refine Gw.drewN ?_ _ | (refine Gw.trans ?_ (by with_reducible assumption))))) (by omega)
  rw [← tabOf_snoc] at htab4
  have h0 : ∀ h, tabOf (W ++ [((p : Int), (f : Int), (t : Int))]) 0 h = false := fun h => by
    rw [tabOf_snoc]
    unfold setT
    rw [if_neg (by omega)]
    exact tabOf_zero HW.out h
  have H0 := Lib.hid h0
  clear h0
  go_wp2_with fail
  refine (i_windows _ _ _ H0.out htab4).mono ?_
  rw [← HF.out]
  rintro _ w5 ⟨A5, c5, rfl, hown5, hb5⟩
  go_wp2_with fail
  go_ret2
  exact ⟨A5, c5, rfl, own_lower hown5 hgw4.size, by (repeat (first | with_reducible exact Gw.refl _ | with_reducible assumption | ((with_reducible refine Gw.set ?_ ?_ _); rotate_left; (focus (first | (simp; done) | (simp; omega) | omega))) | with_reducible refine Gw.alloc ?_ _ | with_reducible refine Gw.drew ?_ | with_reducible refine Gw.drewN ?_ _ | (refine Gw.trans ?_ (by with_reducible assumption))))⟩

set_option maxHeartbeats 4000000 in
theorem i_CloseHours (A : Option Addr) (cA : Nat) (W : List W3) (f t : Int) (w : World) (hl : W.length ≤ 1048576) (hA : Rd w A W) (_hc : W.length ≤ cA) :
    Calls Try.prog 19 #[.slice A W.length cA, .int .i64 f, .int .i64 t] w fun e w' => ∃ A c', e = .returned (.tuple #[.slice A (closeF W f t).1.length c', .bool (closeF W f t).2]) ∧
      w'.ownsRow w.heap.size 30 3 (.slice A (closeF W f t).1.length c') (closeF W f t).1.length (flat (closeF W f t).1) ∧ Gw w w' := by
  have HA := Lib.hid hA
  clear hA
  go_enter Try.func19, Try.ntmps19
  go_wp2_with fail
  refine (i_AreWindows _ _ _ _ hl (HA.out.gw (by (repeat (first | with_reducible exact Gw.refl _ | with_reducible assumption | ((with_reducible refine Gw.set ?_ ?_ _); rotate_left; (focus (first | (simp; done) | (simp; omega) | omega))) | with_reducible refine Gw.alloc ?_ _ | with_reducible refine Gw.drew ?_ | with_reducible refine Gw.drewN ?_ _ | (refine Gw.trans ?_ (by with_reducible assumption))))))).mono ?_
  rintro _ w1 (⟨hp, rfl, hb1⟩ | ⟨hp, rfl, hb1⟩)
  case inr =>
    have hno := Lib.hid (closeF_bad (W := W) (f := f) (t := t) (fun h => hp h.1))
    clear hp
    go_wp2_with fail
    go_ret2
    exact ⟨none, 0, ret_lb (A := none) (c := 0) hno.out, by rw [hno.out]; exact World.ownsRow_nil _ _ _ _, by (repeat (first | with_reducible exact Gw.refl _ | with_reducible assumption | ((with_reducible refine Gw.set ?_ ?_ _); rotate_left; (focus (first | (simp; done) | (simp; omega) | omega))) | with_reducible refine Gw.alloc ?_ _ | with_reducible refine Gw.drew ?_ | with_reducible refine Gw.drewN ?_ _ | (refine Gw.trans ?_ (by with_reducible assumption))))⟩
  have HW := Lib.hid hp
  clear hp
  by_cases hx : 0 ≤ f ∧ f < t ∧ t ≤ 168
  case neg =>
    have hno := Lib.hid (closeF_bad (W := W) (f := f) (t := t) (fun h => hx h.2))
    go_wp2
    all_goals
      go_ret2
      exact ⟨none, 0, ret_lb (A := none) (c := 0) hno.out, by rw [hno.out]; exact World.ownsRow_nil _ _ _ _, by (repeat (first | with_reducible exact Gw.refl _ | with_reducible assumption | ((with_reducible refine Gw.set ?_ ?_ _); rotate_left; (focus (first | (simp; done) | (simp; omega) | omega))) | with_reducible refine Gw.alloc ?_ _ | with_reducible refine Gw.drew ?_ | with_reducible refine Gw.drewN ?_ _ | (refine Gw.trans ?_ (by with_reducible assumption))))⟩
  have HF := Lib.hid (closeF_ok ⟨HW.out, hx⟩)
  obtain ⟨f, rfl⟩ := Int.eq_ofNat_of_zero_le hx.1
  obtain ⟨t, rfl⟩ := Int.eq_ofNat_of_zero_le (show 0 ≤ t by omega)
  obtain ⟨hx1, hx2, hx3⟩ := hx
  go_wp2_with fail
  refine (i_tableOf _ _ _ _ hl (HA.out.gw (by (repeat (first | with_reducible exact Gw.refl _ | with_reducible assumption | ((with_reducible refine Gw.set ?_ ?_ _); rotate_left; (focus (first | (simp; done) | (simp; omega) | omega))) | with_reducible refine Gw.alloc ?_ _ | with_reducible refine Gw.drew ?_ | with_reducible refine Gw.drewN ?_ _ | (refine Gw.trans ?_ (by with_reducible assumption)))))) HW.out).mono ?_
  rintro _ w3 ⟨rfl, htab, hb3⟩
  have hz3 := hb3.size
  have hlt3 := htab.lt
  have hz1 := hb1.size
  have HT := Lib.hid htab
  clear htab
  go_wp2_with fail
  go_loopw [9] (fun q wr => ∃ k : Nat, q = .int .i64 k ∧ 1 ≤ k ∧ k ≤ 10 ∧ TabR wr w1.heap.size (closeTo (tabOf W) f t k) ∧ Gw w wr) (fun q _ => 10 - (intOf q).toNat)
  case atStart => exact ⟨1, by go_num, Nat.le_refl _, by omega, by rw [closeTo_one]; exact HT.out, by (repeat (first | with_reducible exact Gw.refl _ | with_reducible assumption | ((with_reducible refine Gw.set ?_ ?_ _); rotate_left; (focus (first | (simp; done) | (simp; omega) | omega))) | with_reducible refine Gw.alloc ?_ _ | with_reducible refine Gw.drew ?_ | with_reducible refine Gw.drewN ?_ _ | (refine Gw.trans ?_ (by with_reducible assumption))))⟩
  case round =>
    obtain ⟨k, rfl, hk1, hk2, htab, hgw⟩ := hrel
    by_cases hlt : k < 10
    · go_wp2_with fail
      refine (i_set w1.heap.size k f t false _ _ hlt (by omega) (by omega) htab).mono ?_
      rintro _ w4 ⟨rfl, htab4, hg4⟩
      rw [← closeTo_next _ _ _ _ hk1] at htab4
      have hgw4 : Gw w w4 := hg4 w hgw hz1
      go_wp2_with fail
      go_roundw
      case rel => exact ⟨k + 1, by go_num, by omega, by omega, htab4, hgw4⟩
      case measure => simp [intOf]; omega
    · obtain rfl : k = 10 := by omega
      have hcl := Lib.hid (closeTo_all (f := f) (t := t) (tabOf_zero HW.out))
      have T5 := (i_windows w1.heap.size (closeTo (tabOf W) f t 10) wr (closeTo_zero (tabOf_zero HW.out)) htab)
      rw [hcl.out, ← HF.out] at T5
      have H5 := Lib.hid T5
      clear T5
      have hgz := hgw.size
      go_wp2_with fail
      refine H5.out.mono ?_
      rintro _ w5 ⟨A5, c5, rfl, hown5, hb5⟩
      go_wp2_with fail
      go_ret2
      exact ⟨A5, c5, rfl, own_lower hown5 hgz, by (repeat (first | with_reducible exact Gw.refl _ | with_reducible assumption | ((with_reducible refine Gw.set ?_ ?_ _); rotate_left; (focus (first | (simp; done) | (simp; omega) | omega))) | with_reducible refine Gw.alloc ?_ _ | with_reducible refine Gw.drew ?_ | with_reducible refine Gw.drewN ?_ _ | (refine Gw.trans ?_ (by with_reducible assumption))))⟩
end Go.Proofs.Ytegokhpbjhanbaa
