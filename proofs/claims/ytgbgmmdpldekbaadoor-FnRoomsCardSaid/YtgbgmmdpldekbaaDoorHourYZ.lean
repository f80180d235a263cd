/-
  The program's CommonWindows.
  The reference's CommonWindows.
-/
import Derived.Test.YtgbgmmdpldekbaaDoorHourV
import Derived.BigRegion
import Derived.Deep.RegionLaw
namespace Go.Proofs.YtgbgmmdpldekbaaDoor
open Go.RowKit

theorem TabR.put {w : World} {b : Nat} {T : Nat → Nat → Bool} {p k : Nat} (h : TabR w b T) (hp : p < 10) (hk : k < 168) (v : Bool) :
    TabR (w.setCell ⟨b, p * 168 + k, none⟩ (.bool v)) b (fun q j => if q = p ∧ j = k then v else T q j) := by
  obtain ⟨cs, h, hs, r⟩ := h
  refine ⟨_, h.set _ _, by simp [hs], fun q j hq hj => ?_⟩
  rw [Array.getElem?_setIfInBounds]
  by_cases hqj : p * 168 + k = q * 168 + j
  · have h1 : p = q := by omega
    have h2 : k = j := by omega
    subst h1 h2
    rw [if_pos rfl, if_pos (by omega)]
    simp
  · rw [if_neg hqj, r q j hq hj]
    dsimp only
    rw [if_neg (show ¬(q = p ∧ j = k) by rintro ⟨rfl, rfl⟩; exact hqj rfl)]
theorem TabR.other {w : World} {b g j : Nat} {v : Value} {T : Nat → Nat → Bool} (h : TabR w b T) (hne : g ≠ b) : TabR (w.setCell ⟨g, j, none⟩ v) b T := by
  obtain ⟨cs, h, r⟩ := h
  exact ⟨cs, h.other hne, r⟩
theorem TabR.ext {w : World} {b : Nat} {T U : Nat → Nat → Bool} (h : TabR w b T) (he : ∀ p, p < 10 → ∀ j, j < 168 → T p j = U p j) : TabR w b U := by
  obtain ⟨cs, h, hs, r⟩ := h
  exact ⟨cs, h, hs, fun p j hp hj => by rw [r p j hp hj, he p hp j hj]⟩
def comT (T U : Nat → Nat → Bool) : Nat → Nat → Bool := fun p h => T p h && U p h
def comTo (T U : Nat → Nat → Bool) (P K : Nat) : Nat → Nat → Bool := fun p h => if p < P ∨ (p = P ∧ h < K) then T p h && U p h else T p h
theorem comTo_zero (T U : Nat → Nat → Bool) : comTo T U 0 0 = T := by
  funext p h
  unfold comTo
  rw [if_neg (by omega)]
theorem comTo_at (T U : Nat → Nat → Bool) (P K : Nat) : comTo T U P K P K = T P K := by
  unfold comTo
  rw [if_neg (by omega)]
theorem comTo_step {T U : Nat → Nat → Bool} {P K : Nat} {v : Bool} (hv : v = (T P K && U P K)) : (fun q j => if q = P ∧ j = K then v else comTo T U P K q j) = comTo T U P (K + 1) := by
  funext q j
  unfold comTo
  by_cases e : q = P ∧ j = K
  · obtain ⟨rfl, rfl⟩ := e
    rw [if_pos ⟨rfl, rfl⟩, if_pos (by omega), hv]
  · rw [if_neg e]
    by_cases e2 : q < P ∨ (q = P ∧ j < K)
    · rw [if_pos e2, if_pos (by omega)]
    · rw [if_neg e2, if_neg (by omega)]
theorem comTo_row {T U : Nat → Nat → Bool} {P : Nat} : ∀ p, p < 10 → ∀ j, j < 168 → comTo T U P 168 p j = comTo T U (P + 1) 0 p j := by
  intro p _ j hj
  unfold comTo
  by_cases e2 : p < P ∨ (p = P ∧ j < 168)
  · rw [if_pos e2, if_pos (by omega)]
  · rw [if_neg e2, if_neg (by omega)]
theorem comTo_all {T U : Nat → Nat → Bool} : winF (comTo T U 10 0) = winF (comT T U) := by
  refine winF_ext fun p hp k hk => ?_
  unfold comTo comT
  rw [if_pos (by omega)]
noncomputable def commonF (W V : List W3) : List W3 × Bool := open Classical in if WinsP W ∧ WinsP V then winF (comT (tabOf W) (tabOf V)) else ([], false)
theorem commonF_bad {W V : List W3} (h : ¬(WinsP W ∧ WinsP V)) : commonF W V = ([], false) := by unfold commonF; rw [if_neg h]
theorem commonF_ok {W V : List W3} (h : WinsP W ∧ WinsP V) : commonF W V = winF (comT (tabOf W) (tabOf V)) := by unfold commonF; rw [if_pos h]
theorem commonF_len (W V : List W3) : (commonF W V).1.length ≤ 1048576 := by
  unfold commonF
  split
  · exact winF_len _
  · simp

set_option maxHeartbeats 4000000 in
set_option maxRecDepth 20000 in
theorem i_CommonWindows (A : Option Addr) (cA : Nat) (W : List W3) (B : Option Addr) (cB : Nat) (V : List W3) (w : World) (hl : W.length ≤ 1048576) (hA : Rd w A W) (_hc : W.length ≤ cA) (hl2 : V.length ≤ 1048576) (hB : Rd w B V) (_hc2 : V.length ≤ cB) :
    Calls Tryd.prog 31 #[.slice A W.length cA, .slice B V.length cB] w fun e w' => ∃ A c', e = .returned (.tuple #[.slice A (commonF W V).1.length c', .bool (commonF W V).2]) ∧
      w'.ownsRow w.heap.size 68 3 (.slice A (commonF W V).1.length c') (commonF W V).1.length (flat (commonF W V).1) ∧ Gw w w' := by
  have HA := Lib.hid hA
  have HB := Lib.hid hB
  clear hA hB
  go_enter Tryd.func31, Tryd.ntmps31
  go_wp2_with fail
  refine (i_AreWindows _ _ _ _ hl HA.out).mono ?_
  rintro _ w1 (⟨hp, rfl, hb1⟩ | ⟨hp, rfl, hb1⟩)
  case inr =>
    have hno := Lib.hid (commonF_bad (W := W) (V := V) (fun h => hp h.1))
    clear hp
    go_wp2_with fail
    go_ret2
    exact ⟨none, 0, ret_lb (A := none) (c := 0) hno.out, by rw [hno.out]; exact World.ownsRow_nil _ _ _ _, by (repeat (first | with_reducible exact Gw.refl _ | with_reducible assumption | ((with_reducible refine Gw.set ?_ ?_ _); rotate_left; (focus (first | (simp; done) | (simp; omega) | omega))) | with_reducible refine Gw.alloc ?_ _ | with_reducible refine Gw.drew ?_ | with_reducible refine Gw.drewN ?_ _ | (refine Gw.trans ?_ (by with_reducible assumption))))⟩
  have HW := Lib.hid hp
  clear hp
  go_wp2_with fail
  refine (i_AreWindows _ _ _ _ hl2 (HB.out.gw (by (repeat (first | with_reducible exact Gw.refl _ | with_reducible assumption | ((with_reducible refine Gw.set ?_ ?_ _); rotate_left; (focus (first | (simp; done) | (simp; omega) | omega))) | with_reducible refine Gw.alloc ?_ _ | with_reducible refine Gw.drew ?_ | with_reducible refine Gw.drewN ?_ _ | (refine Gw.trans ?_ (by with_reducible assumption))))))).mono ?_
  rintro _ w2 (⟨hp, rfl, hb2⟩ | ⟨hp, rfl, hb2⟩)
  case inr =>
    have hno := Lib.hid (commonF_bad (W := W) (V := V) (fun h => hp h.2))
    clear hp
    go_wp2_with fail
    go_ret2
    exact ⟨none, 0, ret_lb (A := none) (c := 0) hno.out, by rw [hno.out]; exact World.ownsRow_nil _ _ _ _, by (repeat (first | with_reducible exact Gw.refl _ | with_reducible assumption | ((with_reducible refine Gw.set ?_ ?_ _); rotate_left; (focus (first | (simp; done) | (simp; omega) | omega))) | with_reducible refine Gw.alloc ?_ _ | with_reducible refine Gw.drew ?_ | with_reducible refine Gw.drewN ?_ _ | (refine Gw.trans ?_ (by with_reducible assumption))))⟩
  have HV := Lib.hid hp
  clear hp
  have HF := Lib.hid (commonF_ok ⟨HW.out, HV.out⟩)
  have hg2 : Gw w w2 := by (repeat (first | with_reducible exact Gw.refl _ | with_reducible assumption | ((with_reducible refine Gw.set ?_ ?_ _); rotate_left; (focus (first | (simp; done) | (simp; omega) | omega))) | with_reducible refine Gw.alloc ?_ _ | with_reducible refine Gw.drew ?_ | with_reducible refine Gw.drewN ?_ _ | (refine Gw.trans ?_ (by with_reducible assumption))))
  go_wp2_with fail
  refine (i_tableOf _ _ _ _ hl (HA.out.gw hg2) HW.out).mono ?_
  rintro _ w3 ⟨rfl, htab1, hb3⟩
  have hg3 : Gw w w3 := Gw.trans hg2 hb3
  go_wp2_with fail
  refine (i_tableOf _ _ _ _ hl2 (HB.out.gw hg3) HV.out).mono ?_
  rintro _ w4 ⟨rfl, htab2, hb4⟩
  have hg4 : Gw w w4 := Gw.trans hg3 hb4
  have hlt3 := htab1.lt
  have hz2 := hg2.size
  have H1 := Lib.hid (htab1.gw hb4)
  have H2 := Lib.hid htab2
  clear htab1 htab2
  go_wp2_with fail
  go_loopw [8, 9, 22, 25] (fun _ _ q _ wr => ∃ k : Nat, q = .int .i64 k ∧ k ≤ 10 ∧ TabR wr w2.heap.size (comTo (tabOf W) (tabOf V) k 0) ∧ TabR wr w3.heap.size (tabOf V) ∧ Gw w wr) (fun _ _ q _ _ => 10 - (intOf q).toNat)
  case atStart => exact ⟨0, by go_num, by omega, by rw [comTo_zero]; exact H1.out, H2.out, hg4⟩
  case round =>
    obtain ⟨k, rfl, hk, ht1, ht2, hgw⟩ := hrel
    by_cases hlt : k < 10
    · have hkz : (k : Int) < 10 := by omega
      go_wp2_with fail
      go_loopw [9, 25] (fun _ q wr => ∃ h : Nat, q = .int .i64 h ∧ h ≤ 168 ∧ TabR wr w2.heap.size (comTo (tabOf W) (tabOf V) k h) ∧ TabR wr w3.heap.size (tabOf V) ∧ Gw w wr) (fun _ q _ => 168 - (intOf q).toNat)
      case atStart => exact ⟨0, by go_num, by omega, ht1, ht2, hgw⟩
      case round =>
        clear ht1 ht2 hgw
        obtain ⟨h, rfl, hh, ht1, ht2, hgw⟩ := hrel
        by_cases hlt2 : h < 168
        · have hhz : (h : Int) < 168 := by omega
          have c1 := ht1.cell hlt hlt2
          have c2 := ht2.cell hlt hlt2
          have f1 := ht1.free (k * 168 + h)
          rw [comTo_at] at c1
          have l2 := ht1.lt
          have l3 := ht2.lt
          have hne : ¬(w2.heap.size = w3.heap.size) := by omega
          have hne2 : ¬(w3.heap.size = w2.heap.size) := by omega
          have hput := fun (v : Bool) hv => (ht1.put hlt hlt2 v).ext (U := comTo (tabOf W) (tabOf V) k (h + 1)) (fun p _ j _ => congrFun (congrFun (comTo_step (v := v) hv) p) j)
          have Hput := Lib.hid hput
          have hoth := fun (v : Bool) => TabR.other (g := w2.heap.size) (j := k * 168 + h) (v := .bool v) ht2 hne
          have hgs : ∀ v : Bool, Gw w (wr.setCell ⟨w2.heap.size, k * 168 + h, none⟩ (.bool v)) := fun v => hgw.set hz2 (.bool v)
          clear hput ht1 ht2
          obtain ⟨x, hx⟩ : ∃ x, Hid (tabOf W k h = x) := ⟨_, rfl⟩
          obtain ⟨y, hy⟩ : ∃ y, Hid (tabOf V k h = y) := ⟨_, rfl⟩
          rw [hx.out] at c1
          rw [hy.out] at c2
          go_wp2_with fail
          cases x with
          | true =>
            go_region
            go_wp2_with fail
            go_roundw
            case rel => exact ⟨h + 1, by go_num, by omega, Hput.out y (by rw [hx.out, hy.out]; rfl), hoth y, (hgs y).drew⟩
            case measure => simp [intOf]; omega
          | false =>
            go_region
            go_wp2_with fail
            go_roundw
            case rel => exact ⟨h + 1, by go_num, by omega, Hput.out false (by rw [hx.out]; rfl), hoth false, (hgs false).drew⟩
            case measure => simp [intOf]; omega
        · obtain rfl : h = 168 := by omega
          go_wp2_with fail
          go_roundw
          case rel => exact ⟨k + 1, by go_num, by omega, ht1.ext comTo_row, ht2, hgw⟩
          case measure => simp [intOf]; omega
    · obtain rfl : k = 10 := by omega
      have h0 : ∀ h, comTo (tabOf W) (tabOf V) 10 0 0 h = false := fun h => by
        unfold comTo
        rw [if_pos (by omega), tabOf_zero HW.out h]
        rfl
      have T5 := i_windows w2.heap.size _ wr h0 ht1
      rw [comTo_all, ← HF.out] at T5
      have H5 := Lib.hid T5
      clear T5 h0 ht1 ht2
      have hgz := hgw.size
      go_wp2_with fail
      refine H5.out.mono ?_
      rintro _ w5 ⟨A5, c5, rfl, hown5, hb5⟩
      go_wp2_with fail
      go_ret2
      exact ⟨A5, c5, rfl, own_lower hown5 hgz, by (repeat (first | with_reducible exact Gw.refl _ | with_reducible assumption | ((with_reducible refine Gw.set ?_ ?_ _); rotate_left; (focus (first | (simp; done) | (simp; omega) | omega))) | with_reducible refine Gw.alloc ?_ _ | with_reducible refine Gw.drew ?_ | with_reducible refine Gw.drewN ?_ _ | (refine Gw.trans ?_ (by with_reducible assumption))))⟩
end Go.Proofs.YtgbgmmdpldekbaaDoor
namespace Go.Proofs.YtgbgmmdpldekbaaDoor
open Go.RowKit

set_option maxHeartbeats 4000000 in
set_option maxRecDepth 20000 in
theorem s_CommonWindows (A : Option Addr) (cA : Nat) (W : List W3) (B : Option Addr) (cB : Nat) (V : List W3) (w : World) (hl : W.length ≤ 1048576) (hA : Rd w A W) (_hc : W.length ≤ cA) (hl2 : V.length ≤ 1048576) (hB : Rd w B V) (_hc2 : V.length ≤ cB) :
    Calls Tryd.prog 32 #[.slice A W.length cA, .slice B V.length cB] w fun e w' => ∃ A c', e = .returned (.tuple #[.slice A (commonF W V).1.length c', .bool (commonF W V).2]) ∧
      w'.ownsRow w.heap.size 68 3 (.slice A (commonF W V).1.length c') (commonF W V).1.length (flat (commonF W V).1) ∧ Gw w w' := by
  have HA := Lib.hid hA
  have HB := Lib.hid hB
  clear hA hB
  go_enter Tryd.func32, Tryd.ntmps32
  go_wp2_with fail
  refine (s_wnGood _ _ _ _ hl HA.out).mono ?_
  rintro _ w1 (⟨hp, rfl, hb1⟩ | ⟨hp, rfl, hb1⟩)
  case inr =>
    have hno := Lib.hid (commonF_bad (W := W) (V := V) (fun h => hp h.1))
    clear hp
    go_wp2_with fail
    go_ret2
    exact ⟨none, 0, ret_lb (A := none) (c := 0) hno.out, by rw [hno.out]; exact World.ownsRow_nil _ _ _ _, by (repeat (first | with_reducible exact Gw.refl _ | with_reducible assumption | ((with_reducible refine Gw.set ?_ ?_ _); rotate_left; (focus (first | (simp; done) | (simp; omega) | omega))) | with_reducible refine Gw.alloc ?_ _ | with_reducible refine Gw.drew ?_ | with_reducible refine Gw.drewN ?_ _ | (refine Gw.trans ?_ (by with_reducible assumption))))⟩
  have HW := Lib.hid hp
  clear hp
  go_wp2_with fail
  refine (s_wnGood _ _ _ _ hl2 (HB.out.gw (by (repeat (first | with_reducible exact Gw.refl _ | with_reducible assumption | ((with_reducible refine Gw.set ?_ ?_ _); rotate_left; (focus (first | (simp; done) | (simp; omega) | omega))) | with_reducible refine Gw.alloc ?_ _ | with_reducible refine Gw.drew ?_ | with_reducible refine Gw.drewN ?_ _ | (refine Gw.trans ?_ (by with_reducible assumption))))))).mono ?_
  rintro _ w2 (⟨hp, rfl, hb2⟩ | ⟨hp, rfl, hb2⟩)
  case inr =>
    have hno := Lib.hid (commonF_bad (W := W) (V := V) (fun h => hp h.2))
    clear hp
    go_wp2_with fail
    go_ret2
    exact ⟨none, 0, ret_lb (A := none) (c := 0) hno.out, by rw [hno.out]; exact World.ownsRow_nil _ _ _ _, by (repeat (first | with_reducible exact Gw.refl _ | with_reducible assumption | ((with_reducible refine Gw.set ?_ ?_ _); rotate_left; (focus (first | (simp; done) | (simp; omega) | omega))) | with_reducible refine Gw.alloc ?_ _ | with_reducible refine Gw.drew ?_ | with_reducible refine Gw.drewN ?_ _ | (refine Gw.trans ?_ (by with_reducible assumption))))⟩
  have HV := Lib.hid hp
  clear hp
  have HF := Lib.hid (commonF_ok ⟨HW.out, HV.out⟩)
  have hg2 : Gw w w2 := by (repeat (first | with_reducible exact Gw.refl _ | with_reducible assumption | ((with_reducible refine Gw.set ?_ ?_ _); rotate_left; (focus (first | (simp; done) | (simp; omega) | omega))) | with_reducible refine Gw.alloc ?_ _ | with_reducible refine Gw.drew ?_ | with_reducible refine Gw.drewN ?_ _ | (refine Gw.trans ?_ (by with_reducible assumption))))
  have hz2 := hg2.size
  go_wp2_with fail
  refine (s_wnHours _ _ _ _ hl (HA.out.gw hg2) HW.out).mono ?_
  rintro _ w3 ⟨rfl, ⟨R, htab⟩, hb3⟩
  have hg3 : Gw w w3 := Gw.trans hg2 hb3
  have HT := Lib.hid htab
  clear htab
  go_wp2_with fail
  go_loopw [7, 8, 21, 29] (fun _ _ q _ wr => ∃ k : Nat, q = .int .i64 k ∧ k ≤ 10 ∧ TabK wr w2.heap.size w2.heap.size R (comTo (tabOf W) (tabOf V) k 0) 10 ∧ Gw w wr) (fun _ _ q _ _ => 10 - (intOf q).toNat)
  case atStart => exact ⟨0, by go_num, by omega, by rw [comTo_zero]; exact HT.out, hg3⟩
  case round =>
    obtain ⟨k, rfl, hk, htab, hgw⟩ := hrel
    by_cases hlt : k < 10
    · have hkz : (k : Int) < 10 := by omega
      have hcg := htab.cell hlt hlt
      go_wp2_with fail
      go_loopw [8, 29] (fun _ q wr => ∃ h : Nat, q = .int .i64 h ∧ h ≤ 168 ∧ TabK wr w2.heap.size w2.heap.size R (comTo (tabOf W) (tabOf V) k h) 10 ∧ Gw w wr) (fun _ q _ => 168 - (intOf q).toNat)
      case atStart => exact ⟨0, by go_num, by omega, htab, hgw⟩
      case round =>
        clear htab hgw hcg
        obtain ⟨h, rfl, hh, htab, hgw⟩ := hrel
        by_cases hlt2 : h < 168
        · have hhz : (h : Int) < 168 := by omega
          have hcg := htab.cell hlt hlt
          have hrow := htab.row hlt
          have hgl := htab.lt
          have hbl := hrow.lt
          have hne : ¬(w2.heap.size = R k) := (htab.2.2.1 k hlt).2.1
          have hRk := (htab.2.2.1 k hlt).1
          have c1 := hrow.cell hlt2
          rw [comTo_at] at c1
          obtain ⟨x, hx⟩ : ∃ x, Hid (tabOf W k h = x) := ⟨_, rfl⟩
          obtain ⟨y, hy⟩ : ∃ y, Hid (tabOf V k h = y) := ⟨_, rfl⟩
          rw [hx.out] at c1
          have hks : ∀ u, Gw wr u → u.cell? ⟨w2.heap.size, k, none⟩ = some (.slice (some ⟨R k, 0, none⟩) 168 168) := fun u hu => by rw [hu.cells _ _ hgl]; exact hcg
          have hvs : ∀ u, Gw wr u → u.cell? ⟨R k, h, none⟩ = some (.bool x) ∧ u.frozen? ⟨R k, h, none⟩ = false := fun u hu => ⟨by rw [hu.cells _ _ hbl]; exact c1, (hrow.gw hu).free h⟩
          have hput : ∀ u, Gw wr u → ∀ v, v = (x && y) → TabK (u.setCell ⟨R k, h, none⟩ (.bool v)) w2.heap.size w2.heap.size R (comTo (tabOf W) (tabOf V) k (h + 1)) 10 ∧ Gw w (u.setCell ⟨R k, h, none⟩ (.bool v)) := fun u hu v hv => by
            refine ⟨((htab.gw hu).put hlt hlt2 v).ext (fun p _ j _ => congrFun (congrFun (comTo_step (v := v) (by rw [hx.out, hy.out]; exact hv)) p) j), (Gw.trans hgw hu).set (show w.heap.size ≤ R k by omega) _⟩
          have Hput := Lib.hid hput
          have Hks := Lib.hid hks
          have Hvs := Lib.hid hvs
          have hf1 := (hvs wr (Gw.refl _)).2
          have hop := tabOf_open (W := V) (p := k) (h := h)
          rw [hy.out] at hop
          have Hop := Lib.hid hop
          have HB2 := Lib.hid (HB.out.gw hgw)
          clear hput hks hvs hop htab hrow
          cases x with
          | false =>
            go_wp2_with fail
            go_region
            go_wp2_with fail
            go_roundw
            case rel => exact ⟨h + 1, by go_num, by omega, (Hput.out _ (Gw.refl _) false rfl).1, (Hput.out _ (Gw.refl _) false rfl).2.drew⟩
            case measure => simp [intOf]; omega
          | true =>
            go_wp2_with fail
            go_region_law (first | (go_simp; go_at_call 70; refine ((s_wnOpen _ _ _ _ _ _ hl2 (HB2.out.gw (by (repeat (first | with_reducible exact Gw.refl _ | with_reducible assumption | ((with_reducible refine Gw.set ?_ ?_ _); rotate_left; (focus (first | (simp; done) | (simp; omega) | omega))) | with_reducible refine Gw.alloc ?_ _ | with_reducible refine Gw.drew ?_ | with_reducible refine Gw.drewN ?_ _ | (refine Gw.trans ?_ (by with_reducible assumption)))))) HV.out.1).mono (tells_bool Hop.out)).mono ?_; rintro e w5 ⟨rfl, hb5⟩; have hgB : Gw wr w5 := Gw.trans (by (repeat (first | with_reducible exact Gw.refl _ | with_reducible assumption | ((with_reducible refine Gw.set ?_ ?_ _); rotate_left; (focus (first | (simp; done) | (simp; omega) | omega))) | with_reducible refine Gw.alloc ?_ _ | with_reducible refine Gw.drew ?_ | with_reducible refine Gw.drewN ?_ _ | (refine Gw.trans ?_ (by with_reducible assumption))))) hb5; obtain ⟨hx1, hx2⟩ := Hvs.out w5 hgB; have hx3 := Hks.out w5 hgB; obtain ⟨hp1, hp2⟩ := Hput.out w5 hgB y rfl; have Hp1 := Lib.hid hp1; clear hp1))
            all_goals
              go_wp2_with fail
              go_roundw
              case rel => exact ⟨h + 1, by go_num, by omega, Hp1.out, hp2⟩
              case measure => simp [intOf]; omega
        · obtain rfl : h = 168 := by omega
          go_wp2_with fail
          go_roundw
          case rel => exact ⟨k + 1, by go_num, by omega, htab.ext comTo_row, hgw⟩
          case measure => simp [intOf]; omega
    · obtain rfl : k = 10 := by omega
      have h0 : ∀ h, comTo (tabOf W) (tabOf V) 10 0 0 h = false := fun h => by
        unfold comTo
        rw [if_pos (by omega), tabOf_zero HW.out h]
        rfl
      have HG := Lib.hid (wtab_good h0)
      have HC := Lib.hid (comTo_all (T := tabOf W) (U := tabOf V))
      have hlen := Lib.hid (wtab_len (comTo (tabOf W) (tabOf V) 10 0) 10)
      have Htab := Lib.hid htab
      clear h0 htab
      have hgz := hgw.size
      go_wp2_with fail
      refine (s_wnOf _ _ _ _ _ Htab.out).mono ?_
      rintro _ w5 ⟨A5, c5, rfl, hown5, hb5⟩
      have hr5 := Lib.hid (own_rd hown5)
      go_wp2_with fail
      refine (s_wnIf _ _ _ _ _ rfl (by have := hlen.out; omega) hr5.out).mono ?_
      rintro _ w6 ⟨⟨hgd, rfl⟩ | ⟨hgd, rfl⟩, hb6⟩
      · have hf : Hid (commonF W V = (wtab (comTo (tabOf W) (tabOf V) 10 0) 10, true)) := by
          unfold Hid
          rw [HF.out, ← HC.out, winF_lt (HG.out.1 hgd)]
        clear hgd
        go_wp2_with fail
        go_ret2
        exact ⟨A5, c5, ret_lb hf.out, by rw [hf.out]; exact own_lower (own_gw hown5 hb6) hgz, by (repeat (first | with_reducible exact Gw.refl _ | with_reducible assumption | ((with_reducible refine Gw.set ?_ ?_ _); rotate_left; (focus (first | (simp; done) | (simp; omega) | omega))) | with_reducible refine Gw.alloc ?_ _ | with_reducible refine Gw.drew ?_ | with_reducible refine Gw.drewN ?_ _ | (refine Gw.trans ?_ (by with_reducible assumption))))⟩
      · have hf : Hid (commonF W V = ([], false)) := by
          unfold Hid
          rw [HF.out, ← HC.out, winF_ge (fun h => hgd (HG.out.2 h))]
        clear hgd
        go_wp2_with fail
        go_ret2
        exact ⟨none, 0, ret_lb (A := none) (c := 0) hf.out, by rw [hf.out]; exact World.ownsRow_nil _ _ _ _, by (repeat (first | with_reducible exact Gw.refl _ | with_reducible assumption | ((with_reducible refine Gw.set ?_ ?_ _); rotate_left; (focus (first | (simp; done) | (simp; omega) | omega))) | with_reducible refine Gw.alloc ?_ _ | with_reducible refine Gw.drew ?_ | with_reducible refine Gw.drewN ?_ _ | (refine Gw.trans ?_ (by with_reducible assumption))))⟩
end Go.Proofs.YtgbgmmdpldekbaaDoor
