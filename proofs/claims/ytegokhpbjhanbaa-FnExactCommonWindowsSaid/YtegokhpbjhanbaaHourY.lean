/-
  The program's CommonWindows.
-/
import Derived.Test.YtegokhpbjhanbaaHourX
import Derived.BigRegion
namespace Go.Proofs.Ytegokhpbjhanbaa
open Go.RowKit

theorem TabR.put {w : World} {b : Nat} {T : Nat → Nat → Bool} {p k : Nat} (h : TabR w b T) (hp : p < 10) (hk : k < 168) (v : Bool) :
    TabR (w.setCell ⟨b, p * 168 + k, none⟩ (.bool v)) b (fun q j => if q = p ∧ j = k then v else T q j) := by
  obtain ⟨cs, h, hs, r⟩ := h
  refine ⟨_, h.set _ _, by simp [hs], fun q j hq hj => ?_⟩
  rw [Array.getElem?_setIfInBounds]
  by_cases hqj : p * 168 + k = q * 168 + j
  · have h1 : p = q := by omega
    have h2 : k = j := by omega
    subst h1 h2
    rw [if_pos rfl, if_pos (by omega)]
    simp
  · rw [if_neg hqj, r q j hq hj]
    dsimp only
    rw [if_neg (show ¬(q = p ∧ j = k) by rintro ⟨rfl, rfl⟩; exact hqj rfl)]
theorem TabR.other {w : World} {b g j : Nat} {v : Value} {T : Nat → Nat → Bool} (h : TabR w b T) (hne : g ≠ b) : TabR (w.setCell ⟨g, j, none⟩ v) b T := by
  obtain ⟨cs, h, r⟩ := h
  exact ⟨cs, h.other hne, r⟩
theorem TabR.ext {w : World} {b : Nat} {T U : Nat → Nat → Bool} (h : TabR w b T) (he : ∀ p, p < 10 → ∀ j, j < 168 → T p j = U p j) : TabR w b U := by
  obtain ⟨cs, h, hs, r⟩ := h
  exact ⟨cs, h, hs, fun p j hp hj => by rw [r p j hp hj, he p hp j hj]⟩
def comT (T U : Nat → Nat → Bool) : Nat → Nat → Bool := fun p h => T p h && U p h
def comTo (T U : Nat → Nat → Bool) (P K : Nat) : Nat → Nat → Bool := fun p h => if p < P ∨ (p = P ∧ h < K) then T p h && U p h else T p h
theorem comTo_zero (T U : Nat → Nat → Bool) : comTo T U 0 0 = T := by
  funext p h
  unfold comTo
  rw [if_neg (by omega)]
theorem comTo_at (T U : Nat → Nat → Bool) (P K : Nat) : comTo T U P K P K = T P K := by
  unfold comTo
  rw [if_neg (by omega)]
theorem comTo_step {T U : Nat → Nat → Bool} {P K : Nat} {v : Bool} (hv : v = (T P K && U P K)) : (fun q j => if q = P ∧ j = K then v else comTo T U P K q j) = comTo T U P (K + 1) := by
  funext q j
  unfold comTo
  by_cases e : q = P ∧ j = K
  · obtain ⟨rfl, rfl⟩ := e
    rw [if_pos ⟨rfl, rfl⟩, if_pos (by omega), hv]
  · rw [if_neg e]
    by_cases e2 : q < P ∨ (q = P ∧ j < K)
    · rw [if_pos e2, if_pos (by omega)]
    · rw [if_neg e2, if_neg (by omega)]
theorem comTo_row {T U : Nat → Nat → Bool} {P : Nat} : ∀ p, p < 10 → ∀ j, j < 168 → comTo T U P 168 p j = comTo T U (P + 1) 0 p j := by
  intro p _ j hj
  unfold comTo
  by_cases e2 : p < P ∨ (p = P ∧ j < 168)
  · rw [if_pos e2, if_pos (by omega)]
  · rw [if_neg e2, if_neg (by omega)]
theorem comTo_all {T U : Nat → Nat → Bool} : winF (comTo T U 10 0) = winF (comT T U) := by
  refine winF_ext fun p hp k hk => ?_
  unfold comTo comT
  rw [if_pos (by omega)]
noncomputable def commonF (W V : List W3) : List W3 × Bool := open Classical in if WinsP W ∧ WinsP V then winF (comT (tabOf W) (tabOf V)) else ([], false)
theorem commonF_bad {W V : List W3} (h : ¬(WinsP W ∧ WinsP V)) : commonF W V = ([], false) := by unfold commonF; rw [if_neg h]
theorem commonF_ok {W V : List W3} (h : WinsP W ∧ WinsP V) : commonF W V = winF (comT (tabOf W) (tabOf V)) := by unfold commonF; rw [if_pos h]
theorem commonF_len (W V : List W3) : (commonF W V).1.length ≤ 1048576 := by
  unfold commonF
  split
  · exact winF_len _
  · simp

set_option maxHeartbeats 4000000 in
set_option maxRecDepth 20000 in
theorem i_CommonWindows (A : Option Addr) (cA : Nat) (W : List W3) (B : Option Addr) (cB : Nat) (V : List W3) (w : World) (hl : W.length ≤ 1048576) (hA : Rd w A W) (_hc : W.length ≤ cA) (hl2 : V.length ≤ 1048576) (hB : Rd w B V) (_hc2 : V.length ≤ cB) :
    Calls Try.prog 21 #[.slice A W.length cA, .slice B V.length cB] w fun e w' => ∃ A c', e = .returned (.tuple #[.slice A (commonF W V).1.length c', .bool (commonF W V).2]) ∧
      w'.ownsRow w.heap.size 30 3 (.slice A (commonF W V).1.length c') (commonF W V).1.length (flat (commonF W V).1) ∧ Gw w w' := by
  have HA := Lib.hid hA
  have HB := Lib.hid hB
  clear hA hB
  go_enter Try.func21, Try.ntmps21
  go_wp2_with fail
  refine (i_AreWindows _ _ _ _ hl HA.out).mono ?_
  rintro _ w1 (⟨hp, rfl, hb1⟩ | ⟨hp, rfl, hb1⟩)
  case inr =>
    have hno := Lib.hid (commonF_bad (W := W) (V := V) (fun h => hp h.1))
    clear hp
    go_wp2_with fail
    go_ret2
    exact ⟨none, 0, ret_lb (A := none) (c := 0) hno.out, by rw [hno.out]; exact World.ownsRow_nil _ _ _ _, by (repeat (first | with_reducible exact Gw.refl _ | with_reducible assumption | ((with_reducible refine Gw.set ?_ ?_ _); rotate_left; (focus (first | (simp; done) | (simp; omega) | omega))) | with_reducible refine Gw.alloc ?_ _ | with_reducible refine Gw.drew ?_ | with_reducible refine Gw.drewN ?_ _ | (refine Gw.trans ?_ (by with_reducible assumption))))⟩
  have HW := Lib.hid hp
  clear hp
  go_wp2_with fail
  refine (i_AreWindows _ _ _ _ hl2 (HB.out.gw (by (repeat (first | with_reducible exact Gw.refl _ | with_reducible assumption | ((with_reducible refine Gw.set ?_ ?_ _); rotate_left; (focus (first | (simp; done) | (simp; omega) | omega))) | with_reducible refine Gw.alloc ?_ _ | with_reducible refine Gw.drew ?_ | with_reducible refine Gw.drewN ?_ _ | (refine Gw.trans ?_ (by with_reducible assumption))))))).mono ?_
  rintro _ w2 (⟨hp, rfl, hb2⟩ | ⟨hp, rfl, hb2⟩)
  case inr =>
    have hno := Lib.hid (commonF_bad (W := W) (V := V) (fun h => hp h.2))
    clear hp
    go_wp2_with fail
    go_ret2
    exact ⟨none, 0, ret_lb (A := none) (c := 0) hno.out, by rw [hno.out]; exact World.ownsRow_nil _ _ _ _, by (repeat (first | with_reducible exact Gw.refl _ | with_reducible assumption | ((with_reducible refine Gw.set ?_ ?_ _); rotate_left; (focus (first | (simp; done) | (simp; omega) | omega))) | with_reducible refine Gw.alloc ?_ _ | with_reducible refine Gw.drew ?_ | with_reducible refine Gw.drewN ?_ _ | (refine Gw.trans ?_ (by with_reducible assumption))))⟩
  have HV := Lib.hid hp
  clear hp
  have HF := Lib.hid (commonF_ok ⟨HW.out, HV.out⟩)
  have hg2 : Gw w w2 := by (repeat (first | with_reducible exact Gw.refl _ | with_reducible assumption | ((with_reducible refine Gw.set ?_ ?_ _); rotate_left; (focus (first | (simp; done) | (simp; omega) | omega))) | with_reducible refine Gw.alloc ?_ _ | with_reducible refine Gw.drew ?_ | with_reducible refine Gw.drewN ?_ _ | (refine Gw.trans ?_ (by with_reducible assumption))))
  go_wp2_with fail
  refine (i_tableOf _ _ _ _ hl (HA.out.gw hg2) HW.out).mono ?_
  rintro _ w3 ⟨rfl, htab1, hb3⟩
  have hg3 : Gw w w3 := Gw.trans hg2 hb3
  go_wp2_with fail
  refine (i_tableOf _ _ _ _ hl2 (HB.out.gw hg3) HV.out).mono ?_
  rintro _ w4 ⟨rfl, htab2, hb4⟩
  have hg4 : Gw w w4 := Gw.trans hg3 hb4
  have hlt3 := htab1.lt
  have hz2 := hg2.size
  have H1 := Lib.hid (htab1.gw hb4)
  have H2 := Lib.hid htab2
  clear htab1 htab2
  go_wp2_with fail
  go_loopw [8, 9, 22, 25] (fun _ _ q _ wr => ∃ k : Nat, q = .int .i64 k ∧ k ≤ 10 ∧ TabR wr w2.heap.size (comTo (tabOf W) (tabOf V) k 0) ∧ TabR wr w3.heap.size (tabOf V) ∧ Gw w wr) (fun _ _ q _ _ => 10 - (intOf q).toNat)
  case atStart => exact ⟨0, by go_num, by omega, by rw [comTo_zero]; exact H1.out, H2.out, hg4⟩
  case round =>
    obtain ⟨k, rfl, hk, ht1, ht2, hgw⟩ := hrel
    by_cases hlt : k < 10
    · have hkz : (k : Int) < 10 := by omega
      go_wp2_with fail
      go_loopw [9, 25] (fun _ q wr => ∃ h : Nat, q = .int .i64 h ∧ h ≤ 168 ∧ TabR wr w2.heap.size (comTo (tabOf W) (tabOf V) k h) ∧ TabR wr w3.heap.size (tabOf V) ∧ Gw w wr) (fun _ q _ => 168 - (intOf q).toNat)
      case atStart => exact ⟨0, by go_num, by omega, ht1, ht2, hgw⟩
      case round =>
        clear ht1 ht2 hgw
        obtain ⟨h, rfl, hh, ht1, ht2, hgw⟩ := hrel
        by_cases hlt2 : h < 168
        · have hhz : (h : Int) < 168 := by omega
          have c1 := ht1.cell hlt hlt2
          have c2 := ht2.cell hlt hlt2
          have f1 := ht1.free (k * 168 + h)
          rw [comTo_at] at c1
          have l2 := ht1.lt
          have l3 := ht2.lt
          have hne : ¬(w2.heap.size = w3.heap.size) := by omega
          have hne2 : ¬(w3.heap.size = w2.heap.size) := by omega
          have hput := fun (v : Bool) hv => (ht1.put hlt hlt2 v).ext (U := comTo (tabOf W) (tabOf V) k (h + 1)) (fun p _ j _ => congrFun (congrFun (comTo_step (v := v) hv) p) j)
          have Hput := Lib.hid hput
          have hoth := fun (v : Bool) => TabR.other (g := w2.heap.size) (j := k * 168 + h) (v := .bool v) ht2 hne
          have hgs : ∀ v : Bool, Gw w (wr.setCell ⟨w2.heap.size, k * 168 + h, none⟩ (.bool v)) := fun v => hgw.set hz2 (.bool v)
          clear hput ht1 ht2
          obtain ⟨x, hx⟩ : ∃ x, Hid (tabOf W k h = x) := ⟨_, rfl⟩
          obtain ⟨y, hy⟩ : ∃ y, Hid (tabOf V k h = y) := ⟨_, rfl⟩
          rw [hx.out] at c1
          rw [hy.out] at c2
          go_wp2_with fail
          cases x with
          | true =>
            go_region
            go_wp2_with fail
            go_roundw
            case rel => exact ⟨h + 1, by go_num, by omega, Hput.out y (by rw [hx.out, hy.out]; rfl), hoth y, (hgs y).drew⟩
            case measure => simp [intOf]; omega
          | false =>
            go_region
            go_wp2_with fail
            go_roundw
            case rel => exact ⟨h + 1, by go_num, by omega, Hput.out false (by rw [hx.out]; rfl), hoth false, (hgs false).drew⟩
            case measure => simp [intOf]; omega
        · obtain rfl : h = 168 := by omega
          go_wp2_with fail
          go_roundw
          case rel => exact ⟨k + 1, by go_num, by omega, ht1.ext comTo_row, ht2, hgw⟩
          case measure => simp [intOf]; omega
    · obtain rfl : k = 10 := by omega
      have h0 : ∀ h, comTo (tabOf W) (tabOf V) 10 0 0 h = false := fun h => by
        unfold comTo
        rw [if_pos (by omega), tabOf_zero HW.out h]
        rfl
      have T5 := i_windows w2.heap.size _ wr h0 ht1
      rw [comTo_all, ← HF.out] at T5
      have H5 := Lib.hid T5
      clear T5 h0 ht1 ht2
      have hgz := hgw.size
      go_wp2_with fail
      refine H5.out.mono ?_
      rintro _ w5 ⟨A5, c5, rfl, hown5, hb5⟩
      go_wp2_with fail
      go_ret2
      exact ⟨A5, c5, rfl, own_lower hown5 hgz, by (repeat (first | with_reducible exact Gw.refl _ | with_reducible assumption | ((with_reducible refine Gw.set ?_ ?_ _); rotate_left; (focus (first | (simp; done) | (simp; omega) | omega))) | with_reducible refine Gw.alloc ?_ _ | with_reducible refine Gw.drew ?_ | with_reducible refine Gw.drewN ?_ _ | (refine Gw.trans ?_ (by with_reducible assumption))))⟩
end Go.Proofs.Ytegokhpbjhanbaa
