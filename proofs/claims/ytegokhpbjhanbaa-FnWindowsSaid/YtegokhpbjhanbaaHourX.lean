/-
  The reference's CloseHours.
-/
import Derived.Test.YtegokhpbjhanbaaHourV
namespace Go.Proofs.Ytegokhpbjhanbaa
open Go.RowKit

def clsTo (T : Nat → Nat → Bool) (f t k : Nat) : Nat → Nat → Bool := fun p h => if p < k ∧ f ≤ h ∧ h < t then false else T p h
theorem clsTo_zero (T : Nat → Nat → Bool) (f t : Nat) : clsTo T f t 0 = T := by
  funext p h
  unfold clsTo
  rw [if_neg (by omega)]
theorem clsTo_next (T : Nat → Nat → Bool) (f t k : Nat) : setT (clsTo T f t k) k f t false = clsTo T f t (k + 1) := by
  funext p h
  unfold clsTo setT
  dsimp only
  by_cases h1 : p = k ∧ f ≤ h ∧ h < t
  · rw [if_pos h1, if_pos (by omega)]
  · rw [if_neg h1]
    by_cases h2 : p < k ∧ f ≤ h ∧ h < t
    · rw [if_pos h2, if_pos (by omega)]
    · rw [if_neg h2, if_neg (by omega)]
theorem clsTo_all {T : Nat → Nat → Bool} {f t : Nat} : winF (clsTo T f t 10) = winF (closeT T f t) := by
  refine winF_ext fun p hp k hk => ?_
  unfold clsTo closeT
  by_cases h2 : p < 10 ∧ f ≤ k ∧ k < t
  · rw [if_pos h2, show decide ((f : Int) ≤ (k : Int) ∧ (k : Int) < (t : Int)) = true by simp; omega]
    simp
  · rw [if_neg h2, show decide ((f : Int) ≤ (k : Int) ∧ (k : Int) < (t : Int)) = false by simp; omega]
    simp

set_option maxHeartbeats 4000000 in
set_option maxRecDepth 20000 in
theorem s_CloseHours (A : Option Addr) (cA : Nat) (W : List W3) (f t : Int) (w : World) (hl : W.length ≤ 1048576) (hA : Rd w A W) (_hc : W.length ≤ cA) :
    Calls Try.prog 18 #[.slice A W.length cA, .int .i64 f, .int .i64 t] w fun e w' => ∃ A c', e = .returned (.tuple #[.slice A (closeF W f t).1.length c', .bool (closeF W f t).2]) ∧
      w'.ownsRow w.heap.size 30 3 (.slice A (closeF W f t).1.length c') (closeF W f t).1.length (flat (closeF W f t).1) ∧ Gw w w' := by
  have HA := Lib.hid hA
  clear hA
  go_enter Try.func18, Try.ntmps18
  go_wp2_with fail
  refine (s_wnGood _ _ _ _ hl (HA.out.gw (by (repeat (first | with_reducible exact Gw.refl _ | with_reducible assumption | ((with_reducible refine Gw.set ?_ ?_ _); rotate_left; (focus (first | (simp; done) | (simp; omega) | omega))) | with_reducible refine Gw.alloc ?_ _ | with_reducible refine Gw.drew ?_ | with_reducible refine Gw.drewN ?_ _ | (refine Gw.trans ?_ (by with_reducible assumption))))))).mono ?_
  rintro _ w1 (⟨hp, rfl, hb1⟩ | ⟨hp, rfl, hb1⟩)
  case inr =>
    have hno := Lib.hid (closeF_bad (W := W) (f := f) (t := t) (fun h => hp h.1))
    clear hp
    go_wp2_with fail
    go_ret2
    exact ⟨none, 0, ret_lb (A := none) (c := 0) hno.out, by rw [hno.out]; exact World.ownsRow_nil _ _ _ _, by (repeat (first | with_reducible exact Gw.refl _ | with_reducible assumption | ((with_reducible refine Gw.set ?_ ?_ _); rotate_left; (focus (first | (simp; done) | (simp; omega) | omega))) | with_reducible refine Gw.alloc ?_ _ | with_reducible refine Gw.drew ?_ | with_reducible refine Gw.drewN ?_ _ | (refine Gw.trans ?_ (by with_reducible assumption))))⟩
  have HW := Lib.hid hp
  clear hp
  go_wp2_with fail
  refine (s_wnHour _ _).mono ?_
  rintro _ _ (⟨hp, rfl, rfl⟩ | ⟨hp, rfl, rfl⟩)
  case inr =>
    have hno := Lib.hid (closeF_bad (W := W) (f := f) (t := t) (fun h => hp (by obtain ⟨_, h1, h2, h3⟩ := h; exact ⟨h1, by omega⟩)))
    clear hp
    go_wp2_with fail
    go_ret2
    exact ⟨none, 0, ret_lb (A := none) (c := 0) hno.out, by rw [hno.out]; exact World.ownsRow_nil _ _ _ _, by (repeat (first | with_reducible exact Gw.refl _ | with_reducible assumption | ((with_reducible refine Gw.set ?_ ?_ _); rotate_left; (focus (first | (simp; done) | (simp; omega) | omega))) | with_reducible refine Gw.alloc ?_ _ | with_reducible refine Gw.drew ?_ | with_reducible refine Gw.drewN ?_ _ | (refine Gw.trans ?_ (by with_reducible assumption))))⟩
  obtain ⟨hf1, hf2⟩ : 0 ≤ f ∧ f ≤ 167 := hp
  go_wp2_with fail
  refine (s_l1In _ _ _ _).mono ?_
  rintro _ _ (⟨hp, rfl, rfl⟩ | ⟨hp, rfl, rfl⟩)
  case inr =>
    have hno := Lib.hid (closeF_bad (W := W) (f := f) (t := t) (fun h => hp (by obtain ⟨_, h1, h2, h3⟩ := h; exact ⟨by omega, h3⟩)))
    clear hp
    go_wp2_with fail
    go_ret2
    exact ⟨none, 0, ret_lb (A := none) (c := 0) hno.out, by rw [hno.out]; exact World.ownsRow_nil _ _ _ _, by (repeat (first | with_reducible exact Gw.refl _ | with_reducible assumption | ((with_reducible refine Gw.set ?_ ?_ _); rotate_left; (focus (first | (simp; done) | (simp; omega) | omega))) | with_reducible refine Gw.alloc ?_ _ | with_reducible refine Gw.drew ?_ | with_reducible refine Gw.drewN ?_ _ | (refine Gw.trans ?_ (by with_reducible assumption))))⟩
  obtain ⟨ht1, hx3⟩ : f + 1 ≤ t ∧ t ≤ 168 := hp
  have HF := Lib.hid (closeF_ok (W := W) (f := f) (t := t) ⟨HW.out, hf1, by omega, hx3⟩)
  obtain ⟨f, rfl⟩ := Int.eq_ofNat_of_zero_le hf1
  obtain ⟨t, rfl⟩ := Int.eq_ofNat_of_zero_le (show 0 ≤ t by omega)
  go_wp2_with fail
  refine (s_wnHours _ _ _ _ hl (HA.out.gw (by (repeat (first | with_reducible exact Gw.refl _ | with_reducible assumption | ((with_reducible refine Gw.set ?_ ?_ _); rotate_left; (focus (first | (simp; done) | (simp; omega) | omega))) | with_reducible refine Gw.alloc ?_ _ | with_reducible refine Gw.drew ?_ | with_reducible refine Gw.drewN ?_ _ | (refine Gw.trans ?_ (by with_reducible assumption)))))) HW.out).mono ?_
  rintro _ w3 ⟨rfl, ⟨B, htab⟩, hb3⟩
  have hz3 := hb3.size
  have hz1 := hb1.size
  have hg3 : Gw w w3 := by (repeat (first | with_reducible exact Gw.refl _ | with_reducible assumption | ((with_reducible refine Gw.set ?_ ?_ _); rotate_left; (focus (first | (simp; done) | (simp; omega) | omega))) | with_reducible refine Gw.alloc ?_ _ | with_reducible refine Gw.drew ?_ | with_reducible refine Gw.drewN ?_ _ | (refine Gw.trans ?_ (by with_reducible assumption))))
  have HT := Lib.hid htab
  clear htab
  go_wp2_with fail
  go_loopw [9, 10, 30] (fun _ _ q wr => ∃ k : Nat, q = .int .i64 k ∧ k ≤ 10 ∧ TabK wr w1.heap.size w1.heap.size B (clsTo (tabOf W) f t k) 10 ∧ Gw w wr) (fun _ _ q _ => 10 - (intOf q).toNat)
  case atStart => exact ⟨0, by go_num, by omega, by rw [clsTo_zero]; exact HT.out, hg3⟩
  case round =>
    obtain ⟨k, rfl, hk, htab, hgw⟩ := hrel
    by_cases hlt : k < 10
    · have hkz : (k : Int) < 10 := by omega
      go_wp2_with fail
      go_loopw [10] (fun q w3 => ∃ h : Nat, q = .int .i64 h ∧ f ≤ h ∧ h ≤ t ∧ TabK w3 w1.heap.size w1.heap.size B (setT (clsTo (tabOf W) f t k) k f h false) 10 ∧ Gw w w3) (fun q _ => t - (intOf q).toNat)
      case atStart => exact ⟨f, by go_num, Nat.le_refl _, by omega, by rw [setT_none]; exact htab, hgw⟩
      case round =>
        clear htab hgw
        obtain ⟨h, rfl, hh1, hh2, htab, hgw⟩ := hrel
        by_cases hlt2 : h < t
        · have hk2 : h < 168 := by omega
          have hhz : (h : Int) < 168 := by omega
          have hcg := htab.cell hlt hlt
          have hcr := (htab.row hlt).cell hk2
          have hfr := (htab.row hlt).free h
          have hput := (htab.put hlt hk2 false).ext (U := setT (clsTo (tabOf W) f t k) k f (h + 1) false) (fun q hq j hj => by
            unfold setT
            by_cases e : q = k ∧ j = h
            · rw [if_pos e, if_pos (by omega)]
            · rw [if_neg e]
              by_cases e2 : q = k ∧ f ≤ j ∧ j < h
              · rw [if_pos e2, if_pos (by omega)]
              · rw [if_neg e2, if_neg (by omega)])
          have hpg := htab.putGw hlt h (.bool false) hgw hz1
          have Hput := Lib.hid hput
          clear hput htab
          go_wp2_with fail
          go_roundw
          case rel => exact ⟨h + 1, by go_num, by omega, by omega, Hput.out, hpg⟩
          case measure => simp [intOf]; omega
        · obtain rfl : h = t := by omega
          rw [clsTo_next] at htab
          go_wp2_with fail
          go_roundw
          case rel => exact ⟨k + 1, by go_num, by omega, htab, hgw⟩
          case measure => simp [intOf]; omega
    · obtain rfl : k = 10 := by omega
      have h0 : ∀ h, clsTo (tabOf W) f t 10 0 h = false := fun h => by
        unfold clsTo
        split
        · rfl
        · exact tabOf_zero HW.out h
      have HG := Lib.hid (wtab_good h0)
      have HC := Lib.hid (clsTo_all (T := tabOf W) (f := f) (t := t))
      have hlen := Lib.hid (wtab_len (clsTo (tabOf W) f t 10) 10)
      have Htab := Lib.hid htab
      clear h0 htab
      have hgz := hgw.size
      go_wp2_with fail
      refine (s_wnOf _ _ _ _ _ Htab.out).mono ?_
      rintro _ w5 ⟨A5, c5, rfl, hown5, hb5⟩
      have hr5 := Lib.hid (own_rd hown5)
      go_wp2_with fail
      refine (s_wnIf _ _ _ _ _ rfl (by have := hlen.out; omega) hr5.out).mono ?_
      rintro _ w6 ⟨⟨hgd, rfl⟩ | ⟨hgd, rfl⟩, hb6⟩
      · have hf : Hid (closeF W (f : Int) (t : Int) = (wtab (clsTo (tabOf W) f t 10) 10, true)) := by
          unfold Hid
          rw [HF.out, ← HC.out, winF_lt (HG.out.1 hgd)]
        clear hgd
        go_wp2_with fail
        go_ret2
        exact ⟨A5, c5, ret_lb hf.out, by rw [hf.out]; exact own_lower (own_gw hown5 hb6) hgz, by (repeat (first | with_reducible exact Gw.refl _ | with_reducible assumption | ((with_reducible refine Gw.set ?_ ?_ _); rotate_left; (focus (first | (simp; done) | (simp; omega) | omega))) | with_reducible refine Gw.alloc ?_ _ | with_reducible refine Gw.drew ?_ | with_reducible refine Gw.drewN ?_ _ | (refine Gw.trans ?_ (by with_reducible assumption))))⟩
      · have hf : Hid (closeF W (f : Int) (t : Int) = ([], false)) := by
          unfold Hid
          rw [HF.out, ← HC.out, winF_ge (fun h => hgd (HG.out.2 h))]
        clear hgd
        go_wp2_with fail
        go_ret2
        exact ⟨none, 0, ret_lb (A := none) (c := 0) hf.out, by rw [hf.out]; exact World.ownsRow_nil _ _ _ _, by (repeat (first | with_reducible exact Gw.refl _ | with_reducible assumption | ((with_reducible refine Gw.set ?_ ?_ _); rotate_left; (focus (first | (simp; done) | (simp; omega) | omega))) | with_reducible refine Gw.alloc ?_ _ | with_reducible refine Gw.drew ?_ | with_reducible refine Gw.drewN ?_ _ | (refine Gw.trans ?_ (by with_reducible assumption))))⟩
end Go.Proofs.Ytegokhpbjhanbaa
