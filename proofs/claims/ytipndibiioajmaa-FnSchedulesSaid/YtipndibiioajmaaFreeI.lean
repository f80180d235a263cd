/-
  The program's FreeWindows.
-/
import Derived.Test.YtipndibiioajmaaFreeP
namespace Go.Proofs.Ytipndibiioajmaa
open Go.RowKit

set_option maxHeartbeats 4000000 in
theorem i_FreeWindows (A : Option Addr) (cA : Nat) (W : List W3) (B : Option Addr) (cB : Nat) (S : List B4) (w : World) (hl : W.length ≤ 1048576) (hA : Rd w A W) (_hc : W.length ≤ cA) (hl2 : S.length ≤ 1048576) (hB : Rd w B S) (hc2 : S.length ≤ cB) :
    Calls Try.prog 22 #[.slice A W.length cA, .slice B S.length cB] w fun e w' => ∃ A c', e = .returned (.tuple #[.slice A (freeF W S).1.length c', .bool (freeF W S).2]) ∧
      w'.ownsRow w.heap.size 71 3 (.slice A (freeF W S).1.length c') (freeF W S).1.length (flat (freeF W S).1) ∧ Gw w w' := by
  have HA := Lib.hid hA
  have HB := Lib.hid hB
  clear hA hB
  go_enter Try.func22, Try.ntmps22
  go_wp2_with fail
  refine (i_AreWindows _ _ _ _ hl HA.out).mono ?_
  rintro _ w1 (⟨hp, rfl, hb1⟩ | ⟨hp, rfl, hb1⟩)
  case inr =>
    have hno := Lib.hid (freeF_bad (W := W) (S := S) (fun h => hp h.1))
    clear hp
    go_wp2_with fail
    go_ret2
    exact ⟨none, 0, ret_lb (A := none) (c := 0) hno.out, by rw [hno.out]; exact World.ownsRow_nil _ _ _ _, by (repeat (first | with_reducible exact Gw.refl _ | with_reducible assumption | ((with_reducible refine Gw.set ?_ ?_ _); rotate_left; (focus (first | (simp; done) | (simp; omega) | omega))) | with_reducible refine Gw.alloc ?_ _ | with_reducible refine Gw.drew ?_ | with_reducible refine Gw.drewN ?_ _ | (refine Gw.trans ?_ (by with_reducible assumption))))⟩
  have HW := Lib.hid hp
  clear hp
  go_wp2_with fail
  refine (i_AreBooked _ _ _ _ hl2 (HB.out.gw (by (repeat (first | with_reducible exact Gw.refl _ | with_reducible assumption | ((with_reducible refine Gw.set ?_ ?_ _); rotate_left; (focus (first | (simp; done) | (simp; omega) | omega))) | with_reducible refine Gw.alloc ?_ _ | with_reducible refine Gw.drew ?_ | with_reducible refine Gw.drewN ?_ _ | (refine Gw.trans ?_ (by with_reducible assumption)))))) hc2).mono ?_
  rintro _ w2 (⟨hp, rfl, hb2⟩ | ⟨hp, rfl, hb2⟩)
  case inr =>
    have hno := Lib.hid (freeF_bad (W := W) (S := S) (fun h => hp h.2))
    clear hp
    go_wp2_with fail
    go_ret2
    exact ⟨none, 0, ret_lb (A := none) (c := 0) hno.out, by rw [hno.out]; exact World.ownsRow_nil _ _ _ _, by (repeat (first | with_reducible exact Gw.refl _ | with_reducible assumption | ((with_reducible refine Gw.set ?_ ?_ _); rotate_left; (focus (first | (simp; done) | (simp; omega) | omega))) | with_reducible refine Gw.alloc ?_ _ | with_reducible refine Gw.drew ?_ | with_reducible refine Gw.drewN ?_ _ | (refine Gw.trans ?_ (by with_reducible assumption))))⟩
  have HS := Lib.hid hp
  clear hp
  have HF := Lib.hid (freeF_ok ⟨HW.out, HS.out⟩)
  have hg2 : Gw w w2 := by (repeat (first | with_reducible exact Gw.refl _ | with_reducible assumption | ((with_reducible refine Gw.set ?_ ?_ _); rotate_left; (focus (first | (simp; done) | (simp; omega) | omega))) | with_reducible refine Gw.alloc ?_ _ | with_reducible refine Gw.drew ?_ | with_reducible refine Gw.drewN ?_ _ | (refine Gw.trans ?_ (by with_reducible assumption))))
  have hz2 := hg2.size
  go_wp2_with fail
  refine (i_tableOf _ _ _ _ hl (HA.out.gw hg2) HW.out).mono ?_
  rintro _ w3 ⟨rfl, htab, hb3⟩
  have hg3 : Gw w w3 := Gw.trans hg2 hb3
  have hlt3 := htab.lt
  have HT := Lib.hid htab
  clear htab
  go_wp2_with fail
  go_loopw [21] (fun q wr => ∃ k : Nat, q = .int .i64 k ∧ k ≤ S.length ∧ TabR wr w2.heap.size (freeT (tabOf W) (S.take k)) ∧ Gw w wr) (fun q _ => S.length - (intOf q).toNat)
  case atStart => exact ⟨0, by go_num, Nat.zero_le _, by rw [List.take_zero, freeT_nil]; exact HT.out, by (repeat (first | with_reducible exact Gw.refl _ | with_reducible assumption | ((with_reducible refine Gw.set ?_ ?_ _); rotate_left; (focus (first | (simp; done) | (simp; omega) | omega))) | with_reducible refine Gw.alloc ?_ _ | with_reducible refine Gw.drew ?_ | with_reducible refine Gw.drewN ?_ _ | (refine Gw.trans ?_ (by with_reducible assumption))))⟩
  case round =>
    obtain ⟨k, rfl, hk, htab, hgw⟩ := hrel
    by_cases hlt : k < S.length
    · obtain ⟨x, hx⟩ := get_of_lt hlt
      obtain ⟨a, p, f, t, rfl, h1, h2, h3, h4⟩ := bkP_nat (HS.out.1 _ (mem_of_get hx))
      obtain ⟨b, off, rfl, hb, c0, c1, c2, c3⟩ := (HB.out.gw hgw).get4 hx
      have Hx := Lib.hid hx
      clear hx
      dsimp only at c0 c1 c2 c3
      have hlt2 := htab.lt
      go_wp2_with fail
      refine (i_set w2.heap.size p f t false _ _ h2 (by omega) h4 (htab.gw (by (repeat (first | with_reducible exact Gw.refl _ | with_reducible assumption | ((with_reducible refine Gw.set ?_ ?_ _); rotate_left; (focus (first | (simp; done) | (simp; omega) | omega))) | with_reducible refine Gw.alloc ?_ _ | with_reducible refine Gw.drew ?_ | with_reducible refine Gw.drewN ?_ _ | (refine Gw.trans ?_ (by with_reducible assumption))))))).mono ?_
      rintro _ w4 ⟨rfl, htab4, hg4⟩
      have hgw4 : Gw w w4 := hg4 w (by (repeat (first | with_reducible exact Gw.refl _ | with_reducible assumption | ((with_reducible refine Gw.set ?_ ?_ _); rotate_left; (focus (first | (simp; done) | (simp; omega) | omega))) | with_reducible refine Gw.alloc ?_ _ | with_reducible refine Gw.drew ?_ | with_reducible refine Gw.drewN ?_ _ | (refine Gw.trans ?_ (by with_reducible assumption))))) hz2
      go_wp2_with fail
      go_roundw
      case rel => exact ⟨k + 1, by go_num, by omega, by rw [freeT_take Hx.out]; exact htab4, hgw4⟩
      case measure => simp [intOf]; omega
    · obtain rfl : k = S.length := by omega
      rw [List.take_length] at htab
      have T5 := i_windows w2.heap.size (freeT (tabOf W) S) wr (freeT_zero HW.out) htab
      rw [← HF.out] at T5
      have H5 := Lib.hid T5
      clear T5
      have hgz := hgw.size
      go_wp2_with fail
      refine H5.out.mono ?_
      rintro _ w5 ⟨A5, c5, rfl, hown5, hb5⟩
      go_wp2_with fail
      go_ret2
      exact ⟨A5, c5, rfl, own_lower hown5 hgz, by (repeat (first | with_reducible exact Gw.refl _ | with_reducible assumption | ((with_reducible refine Gw.set ?_ ?_ _); rotate_left; (focus (first | (simp; done) | (simp; omega) | omega))) | with_reducible refine Gw.alloc ?_ _ | with_reducible refine Gw.drew ?_ | with_reducible refine Gw.drewN ?_ _ | (refine Gw.trans ?_ (by with_reducible assumption))))⟩
end Go.Proofs.Ytipndibiioajmaa
