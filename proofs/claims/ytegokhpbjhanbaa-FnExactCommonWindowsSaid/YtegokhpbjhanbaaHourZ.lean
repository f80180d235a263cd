/-
  The reference's CommonWindows.
-/
import Derived.Test.YtegokhpbjhanbaaHourY
import Derived.Deep.RegionLaw
namespace Go.Proofs.Ytegokhpbjhanbaa
open Go.RowKit

set_option maxHeartbeats 4000000 in
set_option maxRecDepth 20000 in
theorem s_CommonWindows (A : Option Addr) (cA : Nat) (W : List W3) (B : Option Addr) (cB : Nat) (V : List W3) (w : World) (hl : W.length ≤ 1048576) (hA : Rd w A W) (_hc : W.length ≤ cA) (hl2 : V.length ≤ 1048576) (hB : Rd w B V) (_hc2 : V.length ≤ cB) :
    Calls Try.prog 20 #[.slice A W.length cA, .slice B V.length cB] w fun e w' => ∃ A c', e = .returned (.tuple #[.slice A (commonF W V).1.length c', .bool (commonF W V).2]) ∧
      w'.ownsRow w.heap.size 30 3 (.slice A (commonF W V).1.length c') (commonF W V).1.length (flat (commonF W V).1) ∧ Gw w w' := by
  have HA := Lib.hid hA
  have HB := Lib.hid hB
  clear hA hB
  go_enter Try.func20, Try.ntmps20
  go_wp2_with fail
  refine (s_wnGood _ _ _ _ hl HA.out).mono ?_
  rintro _ w1 (⟨hp, rfl, hb1⟩ | ⟨hp, rfl, hb1⟩)
  case inr =>
    have hno := Lib.hid (commonF_bad (W := W) (V := V) (fun h => hp h.1))
    clear hp
    go_wp2_with fail
    go_ret2
    exact ⟨none, 0, ret_lb (A := none) (c := 0) hno.out, by rw [hno.out]; exact World.ownsRow_nil _ _ _ _, by (repeat (first | with_reducible exact Gw.refl _ | with_reducible assumption | ((with_reducible refine Gw.set ?_ ?_ _); rotate_left; (focus (first | (simp; done) | (simp; omega) | omega))) | with_reducible refine Gw.alloc ?_ _ | with_reducible refine Gw.drew ?_ | with_reducible refine Gw.drewN ?_ _ | (refine Gw.trans ?_ (by with_reducible assumption))))⟩
  have HW := Lib.hid hp
  clear hp
  go_wp2_with fail
  refine (s_wnGood _ _ _ _ hl2 (HB.out.gw (by (repeat (first | with_reducible exact Gw.refl _ | with_reducible assumption | ((with_reducible refine Gw.set ?_ ?_ _); rotate_left; (focus (first | (simp; done) | (simp; omega) | omega))) | with_reducible refine Gw.alloc ?_ _ | with_reducible refine Gw.drew ?_ | with_reducible refine Gw.drewN ?_ _ | (refine Gw.trans ?_ (by with_reducible assumption))))))).mono ?_
  rintro _ w2 (⟨hp, rfl, hb2⟩ | ⟨hp, rfl, hb2⟩)
  case inr =>
    have hno := Lib.hid (commonF_bad (W := W) (V := V) (fun h => hp h.2))
    clear hp
    go_wp2_with fail
    go_ret2
    exact ⟨none, 0, ret_lb (A := none) (c := 0) hno.out, by rw [hno.out]; exact World.ownsRow_nil _ _ _ _, by (repeat (first | with_reducible exact Gw.refl _ | with_reducible assumption | ((with_reducible refine Gw.set ?_ ?_ _); rotate_left; (focus (first | (simp; done) | (simp; omega) | omega))) | with_reducible refine Gw.alloc ?_ _ | with_reducible refine Gw.drew ?_ | with_reducible refine Gw.drewN ?_ _ | (refine Gw.trans ?_ (by with_reducible assumption))))⟩
  have HV := Lib.hid hp
  clear hp
  have HF := Lib.hid (commonF_ok ⟨HW.out, HV.out⟩)
  have hg2 : Gw w w2 := by (repeat (first | with_reducible exact Gw.refl _ | with_reducible assumption | ((with_reducible refine Gw.set ?_ ?_ _); rotate_left; (focus (first | (simp; done) | (simp; omega) | omega))) | with_reducible refine Gw.alloc ?_ _ | with_reducible refine Gw.drew ?_ | with_reducible refine Gw.drewN ?_ _ | (refine Gw.trans ?_ (by with_reducible assumption))))
  have hz2 := hg2.size
  go_wp2_with fail
  refine (s_wnHours _ _ _ _ hl (HA.out.gw hg2) HW.out).mono ?_
  rintro _ w3 ⟨rfl, ⟨R, htab⟩, hb3⟩
  have hg3 : Gw w w3 := Gw.trans hg2 hb3
  have HT := Lib.hid htab
  clear htab
  go_wp2_with fail
  go_loopw [7, 8, 21, 29] (fun _ _ q _ wr => ∃ k : Nat, q = .int .i64 k ∧ k ≤ 10 ∧ TabK wr w2.heap.size w2.heap.size R (comTo (tabOf W) (tabOf V) k 0) 10 ∧ Gw w wr) (fun _ _ q _ _ => 10 - (intOf q).toNat)
  case atStart => exact ⟨0, by go_num, by omega, by rw [comTo_zero]; exact HT.out, hg3⟩
  case round =>
    obtain ⟨k, rfl, hk, htab, hgw⟩ := hrel
    by_cases hlt : k < 10
    · have hkz : (k : Int) < 10 := by omega
      have hcg := htab.cell hlt hlt
      go_wp2_with fail
      go_loopw [8, 29] (fun _ q wr => ∃ h : Nat, q = .int .i64 h ∧ h ≤ 168 ∧ TabK wr w2.heap.size w2.heap.size R (comTo (tabOf W) (tabOf V) k h) 10 ∧ Gw w wr) (fun _ q _ => 168 - (intOf q).toNat)
      case atStart => exact ⟨0, by go_num, by omega, htab, hgw⟩
      case round =>
        clear htab hgw hcg
        obtain ⟨h, rfl, hh, htab, hgw⟩ := hrel
        by_cases hlt2 : h < 168
        · have hhz : (h : Int) < 168 := by omega
          have hcg := htab.cell hlt hlt
          have hrow := htab.row hlt
          have hgl := htab.lt
          have hbl := hrow.lt
          have hne : ¬(w2.heap.size = R k) := (htab.2.2.1 k hlt).2.1
          have hRk := (htab.2.2.1 k hlt).1
          have c1 := hrow.cell hlt2
          rw [comTo_at] at c1
          obtain ⟨x, hx⟩ : ∃ x, Hid (tabOf W k h = x) := ⟨_, rfl⟩
          obtain ⟨y, hy⟩ : ∃ y, Hid (tabOf V k h = y) := ⟨_, rfl⟩
          rw [hx.out] at c1
          have hks : ∀ u, Gw wr u → u.cell? ⟨w2.heap.size, k, none⟩ = some (.slice (some ⟨R k, 0, none⟩) 168 168) := fun u hu => by rw [hu.cells _ _ hgl]; exact hcg
          have hvs : ∀ u, Gw wr u → u.cell? ⟨R k, h, none⟩ = some (.bool x) ∧ u.frozen? ⟨R k, h, none⟩ = false := fun u hu => ⟨by rw [hu.cells _ _ hbl]; exact c1, (hrow.gw hu).free h⟩
          have hput : ∀ u, Gw wr u → ∀ v, v = (x && y) → TabK (u.setCell ⟨R k, h, none⟩ (.bool v)) w2.heap.size w2.heap.size R (comTo (tabOf W) (tabOf V) k (h + 1)) 10 ∧ Gw w (u.setCell ⟨R k, h, none⟩ (.bool v)) := fun u hu v hv => by
            refine ⟨((htab.gw hu).put hlt hlt2 v).ext (fun p _ j _ => congrFun (congrFun (comTo_step (v := v) (by rw [hx.out, hy.out]; exact hv)) p) j), (Gw.trans hgw hu).set (show w.heap.size ≤ R k by omega) _⟩
          have Hput := Lib.hid hput
          have Hks := Lib.hid hks
          have Hvs := Lib.hid hvs
          have hf1 := (hvs wr (Gw.refl _)).2
          have hop := tabOf_open (W := V) (p := k) (h := h)
          rw [hy.out] at hop
          have Hop := Lib.hid hop
          have HB2 := Lib.hid (HB.out.gw hgw)
          clear hput hks hvs hop htab hrow
          cases x with
          | false =>
            go_wp2_with fail
            go_region
            go_wp2_with fail
            go_roundw
            case rel => exact ⟨h + 1, by go_num, by omega, (Hput.out _ (Gw.refl _) false rfl).1, (Hput.out _ (Gw.refl _) false rfl).2.drew⟩
            case measure => simp [intOf]; omega
          | true =>
            go_wp2_with fail
            go_region_law (first | (go_simp; go_at_call 64; refine ((s_wnOpen _ _ _ _ _ _ hl2 (HB2.out.gw (by (repeat (first | with_reducible exact Gw.refl _ | with_reducible assumption | ((with_reducible refine Gw.set ?_ ?_ _); rotate_left; (focus (first | (simp; done) | (simp; omega) | omega))) | with_reducible refine Gw.alloc ?_ _ | with_reducible refine Gw.drew ?_ | with_reducible refine Gw.drewN ?_ _ | (refine Gw.trans ?_ (by with_reducible assumption)))))) HV.out.1).mono (tells_bool Hop.out)).mono ?_; rintro e w5 ⟨rfl, hb5⟩; have hgB : Gw wr w5 := Gw.trans (by (repeat (first | with_reducible exact Gw.refl _ | with_reducible assumption | ((with_reducible refine Gw.set ?_ ?_ _); rotate_left; (focus (first | (simp; done) | (simp; omega) | omega))) | with_reducible refine Gw.alloc ?_ _ | with_reducible refine Gw.drew ?_ | with_reducible refine Gw.drewN ?_ _ | (refine Gw.trans ?_ (by with_reducible assumption))))) hb5; obtain ⟨hx1, hx2⟩ := Hvs.out w5 hgB; have hx3 := Hks.out w5 hgB; obtain ⟨hp1, hp2⟩ := Hput.out w5 hgB y rfl; have Hp1 := Lib.hid hp1; clear hp1))
            all_goals
              go_wp2_with fail
              go_roundw
              case rel => exact ⟨h + 1, by go_num, by omega, Hp1.out, hp2⟩
              case measure => simp [intOf]; omega
        · obtain rfl : h = 168 := by omega
          go_wp2_with fail
          go_roundw
          case rel => exact ⟨k + 1, by go_num, by omega, htab.ext comTo_row, hgw⟩
          case measure => simp [intOf]; omega
    · obtain rfl : k = 10 := by omega
      have h0 : ∀ h, comTo (tabOf W) (tabOf V) 10 0 0 h = false := fun h => by
        unfold comTo
        rw [if_pos (by omega), tabOf_zero HW.out h]
        rfl
      have HG := Lib.hid (wtab_good h0)
      have HC := Lib.hid (comTo_all (T := tabOf W) (U := tabOf V))
      have hlen := Lib.hid (wtab_len (comTo (tabOf W) (tabOf V) 10 0) 10)
      have Htab := Lib.hid htab
      clear h0 htab
      have hgz := hgw.size
      go_wp2_with fail
      refine (s_wnOf _ _ _ _ _ Htab.out).mono ?_
      rintro _ w5 ⟨A5, c5, rfl, hown5, hb5⟩
      have hr5 := Lib.hid (own_rd hown5)
      go_wp2_with fail
      refine (s_wnIf _ _ _ _ _ rfl (by have := hlen.out; omega) hr5.out).mono ?_
      rintro _ w6 ⟨⟨hgd, rfl⟩ | ⟨hgd, rfl⟩, hb6⟩
      · have hf : Hid (commonF W V = (wtab (comTo (tabOf W) (tabOf V) 10 0) 10, true)) := by
          unfold Hid
          rw [HF.out, ← HC.out, winF_lt (HG.out.1 hgd)]
        clear hgd
        go_wp2_with fail
        go_ret2
        exact ⟨A5, c5, ret_lb hf.out, by rw [hf.out]; exact own_lower (own_gw hown5 hb6) hgz, by (repeat (first | with_reducible exact Gw.refl _ | with_reducible assumption | ((with_reducible refine Gw.set ?_ ?_ _); rotate_left; (focus (first | (simp; done) | (simp; omega) | omega))) | with_reducible refine Gw.alloc ?_ _ | with_reducible refine Gw.drew ?_ | with_reducible refine Gw.drewN ?_ _ | (refine Gw.trans ?_ (by with_reducible assumption))))⟩
      · have hf : Hid (commonF W V = ([], false)) := by
          unfold Hid
          rw [HF.out, ← HC.out, winF_ge (fun h => hgd (HG.out.2 h))]
        clear hgd
        go_wp2_with fail
        go_ret2
        exact ⟨none, 0, ret_lb (A := none) (c := 0) hf.out, by rw [hf.out]; exact World.ownsRow_nil _ _ _ _, by (repeat (first | with_reducible exact Gw.refl _ | with_reducible assumption | ((with_reducible refine Gw.set ?_ ?_ _); rotate_left; (focus (first | (simp; done) | (simp; omega) | omega))) | with_reducible refine Gw.alloc ?_ _ | with_reducible refine Gw.drew ?_ | with_reducible refine Gw.drewN ?_ _ | (refine Gw.trans ?_ (by with_reducible assumption))))⟩
end Go.Proofs.Ytegokhpbjhanbaa
