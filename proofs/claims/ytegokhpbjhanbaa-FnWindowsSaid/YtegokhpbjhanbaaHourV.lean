/-
  The reference's functions over a table of hours.
-/
import Derived.Test.YtegokhpbjhanbaaHourU
namespace Go.Proofs.Ytegokhpbjhanbaa
open Go.RowKit

set_option maxHeartbeats 4000000 in
theorem s_wnIf (A : Option Addr) (c n : Nat) (l : List W3) (w : World) (hn : l.length = n) (hl : n ≤ 1048576) (hA : Rd w A l) :
    Calls Try.prog 55 #[.slice A n c] w fun e w' => ((WinsP l ∧ e = .returned (.tuple #[.slice A n c, .bool true])) ∨ (¬WinsP l ∧ e = .returned (.tuple #[.slice none 0 0, .bool false]))) ∧ Gw w w' := by
  subst hn
  go_enter Try.func55, Try.ntmps55
  go_wp2_with fail
  refine (s_wnGood _ _ _ _ hl hA).mono ?_
  rintro _ w1 (⟨hp, rfl, hb1⟩ | ⟨hp, rfl, hb1⟩)
  · have HP := Lib.hid hp
    clear hp
    go_wp2_with fail
    go_ret2
    exact ⟨.inl ⟨HP.out, rfl⟩, hb1⟩
  · have HP := Lib.hid hp
    clear hp
    go_wp2_with fail
    go_ret2
    exact ⟨.inr ⟨HP.out, rfl⟩, hb1⟩

set_option maxHeartbeats 4000000 in
set_option maxRecDepth 20000 in
theorem s_AddWindow (A : Option Addr) (cA : Nat) (W : List W3) (a b c : Int) (w : World) (hl : W.length ≤ 1048576) (hA : Rd w A W) (_hc : W.length ≤ cA) :
    Calls Try.prog 11 #[.slice A W.length cA, .agg #[.int .i64 a, .int .i64 b, .int .i64 c]] w fun e w' => ∃ A c', e = .returned (.tuple #[.slice A (addF W a b c).1.length c', .bool (addF W a b c).2]) ∧
      w'.ownsRow w.heap.size 30 3 (.slice A (addF W a b c).1.length c') (addF W a b c).1.length (flat (addF W a b c).1) ∧ Gw w w' := by
  have HA := Lib.hid hA
  clear hA
  go_enter Try.func11, Try.ntmps11
  go_wp2_with fail
  refine (s_wnGood _ _ _ _ hl (HA.out.gw (by (repeat (first | with_reducible exact Gw.refl _ | with_reducible assumption | ((with_reducible refine Gw.set ?_ ?_ _); rotate_left; (focus (first | (simp; done) | (simp; omega) | omega))) | with_reducible refine Gw.alloc ?_ _ | with_reducible refine Gw.drew ?_ | with_reducible refine Gw.drewN ?_ _ | (refine Gw.trans ?_ (by with_reducible assumption))))))).mono ?_
  rintro _ w1 (⟨hp, rfl, hb1⟩ | ⟨hp, rfl, hb1⟩)
  case inr =>
    have hno := Lib.hid (addF_bad (W := W) (a := a) (b := b) (c := c) (fun h => hp h.1))
    clear hp
    go_wp2_with fail
    go_ret2
    exact ⟨none, 0, ret_lb (A := none) (c := 0) hno.out, by rw [hno.out]; exact World.ownsRow_nil _ _ _ _, by (repeat (first | with_reducible exact Gw.refl _ | with_reducible assumption | ((with_reducible refine Gw.set ?_ ?_ _); rotate_left; (focus (first | (simp; done) | (simp; omega) | omega))) | with_reducible refine Gw.alloc ?_ _ | with_reducible refine Gw.drew ?_ | with_reducible refine Gw.drewN ?_ _ | (refine Gw.trans ?_ (by with_reducible assumption))))⟩
  have HW := Lib.hid hp
  clear hp
  have hz1 := hb1.size
  simp at hz1
  have hc1 := hb1.cells
  by_cases hx : WinP a b c
  case neg =>
    have hno := Lib.hid (addF_bad (W := W) (a := a) (b := b) (c := c) (fun h => hx h.2))
    have Hx := Lib.hid hx
    clear hx
    go_wp2_with fail
    refine ((s_wnWindow _ _ _ _).mono (tells_bool (b := false) (by simp only [Bool.false_eq_true, false_iff]; exact Hx.out))).mono ?_
    rintro _ w2 ⟨rfl, hb2⟩
    go_wp2_with fail
    go_ret2
    exact ⟨none, 0, ret_lb (A := none) (c := 0) hno.out, by rw [hno.out]; exact World.ownsRow_nil _ _ _ _, by (repeat (first | with_reducible exact Gw.refl _ | with_reducible assumption | ((with_reducible refine Gw.set ?_ ?_ _); rotate_left; (focus (first | (simp; done) | (simp; omega) | omega))) | with_reducible refine Gw.alloc ?_ _ | with_reducible refine Gw.drew ?_ | with_reducible refine Gw.drewN ?_ _ | (refine Gw.trans ?_ (by with_reducible assumption))))⟩
  have HF := Lib.hid (addF_ok ⟨HW.out, hx⟩)
  have HX := Lib.hid hx
  obtain ⟨p, f, t, he, h1, h2, h3, h4⟩ := winP_nat (x := (a, b, c)) hx
  clear hx
  obtain ⟨rfl, rfl, rfl⟩ : a = (p : Int) ∧ b = (f : Int) ∧ c = (t : Int) := by simpa using he
  clear he
  go_wp2_with fail
  refine ((s_wnWindow _ _ _ _).mono (tells_bool (b := true) (by simp only [true_iff]; exact HX.out))).mono ?_
  rintro _ w2 ⟨rfl, hb2⟩
  have hz2 := hb2.size
  have hc2 := hb2.cells
  go_wp2_with fail
  refine (s_wnHours _ _ _ _ hl (HA.out.gw (by (repeat (first | with_reducible exact Gw.refl _ | with_reducible assumption | ((with_reducible refine Gw.set ?_ ?_ _); rotate_left; (focus (first | (simp; done) | (simp; omega) | omega))) | with_reducible refine Gw.alloc ?_ _ | with_reducible refine Gw.drew ?_ | with_reducible refine Gw.drewN ?_ _ | (refine Gw.trans ?_ (by with_reducible assumption)))))) HW.out).mono ?_
  rintro _ w3 ⟨rfl, ⟨B, htab⟩, hb3⟩
  have hz3 := hb3.size
  have hbx := fun u (hu : Gw (w.alloc (.cells #[.int .i64 (p : Int), .int .i64 (f : Int), .int .i64 (t : Int)] 30)) u) => (BoxR.new w #[.int .i64 (p : Int), .int .i64 (f : Int), .int .i64 (t : Int)] 30).gw hu
  have Hbx := Lib.hid hbx
  have hg3 : Gw (w.alloc (.cells #[.int .i64 (p : Int), .int .i64 (f : Int), .int .i64 (t : Int)] 30)) w3 := Gw.trans hb1 (Gw.trans hb2 hb3)
  have HT := Lib.hid htab
  have x1 := (Hbx.out w3 hg3).cell 1 rfl
  clear hbx htab hc1 hc2
  go_wp2_with fail
  clear x1
  go_loopw [7] (fun q wr => ∃ k : Nat, q = .int .i64 k ∧ f ≤ k ∧ k ≤ t ∧ TabK wr w2.heap.size w2.heap.size B (setT (tabOf W) p f k true) 10 ∧ Gw (w.alloc (.cells #[.int .i64 (p : Int), .int .i64 (f : Int), .int .i64 (t : Int)] 30)) wr) (fun q _ => t - (intOf q).toNat)
  case atStart => exact ⟨f, by go_num, Nat.le_refl _, by omega, by rw [setT_none]; exact HT.out, hg3⟩
  case round =>
    obtain ⟨k, rfl, hk1, hk2, htab, hgw⟩ := hrel
    have x0 := (Hbx.out wr hgw).cell 0 rfl
    have x2 := (Hbx.out wr hgw).cell 2 rfl
    by_cases hlt : k < t
    · have hk : k < 168 := by omega
      have hpz : (p : Int) < 10 := by omega
      have hkz : (k : Int) < 168 := by omega
      have hcg := htab.cell h2 h2
      have hcr := (htab.row h2).cell hk
      have hfr := (htab.row h2).free k
      have hput := (htab.put h2 hk true).ext (U := setT (tabOf W) p f (k + 1) true) (fun q hq j hj => by
        unfold setT
        by_cases e : q = p ∧ j = k
        · rw [if_pos e, if_pos (by omega)]
        · rw [if_neg e]
          by_cases e2 : q = p ∧ f ≤ j ∧ j < k
          · rw [if_pos e2, if_pos (by omega)]
          · rw [if_neg e2, if_neg (by omega)])
      have hpg := htab.putGw h2 k (.bool true) hgw (by simp; omega)
      have Hput := Lib.hid hput
      clear hput htab
      go_wp2_with fail
      go_roundw
      case rel => exact ⟨k + 1, by go_num, by omega, by omega, Hput.out, hpg⟩
      case measure => simp [intOf]; omega
    · obtain rfl : k = t := by omega
      rw [← tabOf_snoc] at htab
      have h0 : ∀ h, tabOf (W ++ [((p : Int), (f : Int), (k : Int))]) 0 h = false := fun h => by
        rw [tabOf_snoc]
        unfold setT
        rw [if_neg (by omega)]
        exact tabOf_zero HW.out h
      have HG := Lib.hid (wtab_good h0)
      have hlen := Lib.hid (wtab_len (tabOf (W ++ [((p : Int), (f : Int), (k : Int))])) 10)
      have Htab := Lib.hid htab
      clear h0 htab
      have hgw0 : Gw w wr := Gw.trans ((Gw.refl _).alloc _) hgw
      have hgz := hgw0.size
      go_wp2_with fail
      refine (s_wnOf _ _ _ _ _ Htab.out).mono ?_
      rintro _ w5 ⟨A5, c5, rfl, hown5, hb5⟩
      have hr5 := Lib.hid (own_rd hown5)
      go_wp2_with fail
      refine (s_wnIf _ _ _ _ _ rfl (by have := hlen.out; omega) hr5.out).mono ?_
      rintro _ w6 ⟨⟨hgd, rfl⟩ | ⟨hgd, rfl⟩, hb6⟩
      · have hf : Hid (addF W (p : Int) (f : Int) (k : Int) = (wtab (tabOf (W ++ [((p : Int), (f : Int), (k : Int))])) 10, true)) := by
          unfold Hid
          rw [HF.out, winF_lt (HG.out.1 hgd)]
        clear hgd
        go_wp2_with fail
        go_ret2
        exact ⟨A5, c5, ret_lb hf.out, by rw [hf.out]; exact own_lower (own_gw hown5 hb6) hgz, by (repeat (first | with_reducible exact Gw.refl _ | with_reducible assumption | ((with_reducible refine Gw.set ?_ ?_ _); rotate_left; (focus (first | (simp; done) | (simp; omega) | omega))) | with_reducible refine Gw.alloc ?_ _ | with_reducible refine Gw.drew ?_ | with_reducible refine Gw.drewN ?_ _ | (refine Gw.trans ?_ (by with_reducible assumption))))⟩
      · have hf : Hid (addF W (p : Int) (f : Int) (k : Int) = ([], false)) := by
          unfold Hid
          rw [HF.out, winF_ge (fun h => hgd (HG.out.2 h))]
        clear hgd
        go_wp2_with fail
        go_ret2
        exact ⟨none, 0, ret_lb (A := none) (c := 0) hf.out, by rw [hf.out]; exact World.ownsRow_nil _ _ _ _, by (repeat (first | with_reducible exact Gw.refl _ | with_reducible assumption | ((with_reducible refine Gw.set ?_ ?_ _); rotate_left; (focus (first | (simp; done) | (simp; omega) | omega))) | with_reducible refine Gw.alloc ?_ _ | with_reducible refine Gw.drew ?_ | with_reducible refine Gw.drewN ?_ _ | (refine Gw.trans ?_ (by with_reducible assumption))))⟩
end Go.Proofs.Ytegokhpbjhanbaa
