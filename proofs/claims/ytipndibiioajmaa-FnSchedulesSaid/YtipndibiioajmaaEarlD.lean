/-
  The first schedule: the reference's ways over the rehearsals.
-/
import Derived.Test.YtipndibiioajmaaEarlC
namespace Go.Proofs.Ytipndibiioajmaa
open Go.RowKit

def upN (n : Nat) : List Int := (List.range n).map Int.ofNat
theorem upN_len (n : Nat) : (upN n).length = n := by simp [upN]
theorem upN_get {n k : Nat} (h : k < n) : (upN n)[k]? = some (k : Int) := by simp [upN, h]
theorem upN_succ (n : Nat) : upN (n + 1) = upN n ++ [(n : Int)] := by simp [upN, List.range_succ]

set_option maxHeartbeats 4000000 in
theorem s_reOrder (B : Option Addr) (cB n : Nat) (w : World) (hn : n ≤ 1000) :
    Calls Try.prog 51 #[.slice B n cB] w fun e w' => ∃ A c, e = .returned (.slice A n c) ∧
      w'.ownsRow w.heap.size 3 1 (.slice A n c) n (flat (upN n)) ∧ Gw w w' := by
  obtain ⟨i0, hi, hz0, hz1, hz2⟩ := info_parts infoInt
  go_enter Try.func51, Try.ntmps51
  go_wp2_with fail
  go_loopw [3, 7] (fun o q wr => ∃ (k : Nat) (D : Option Addr) (d : Nat), q = .int .i64 k ∧ k ≤ n ∧ o = .slice D k d ∧ wr.ownsRow w.heap.size 3 1 (.slice D k d) k (flat (upN k)) ∧ Gw w wr) (fun _ q _ => n - (intOf q).toNat)
  case atStart => exact ⟨0, none, 0, by go_num, Nat.zero_le _, rfl, (by exact World.ownsRow_nil _ _ _ _), Gw.refl _⟩
  case round =>
    obtain ⟨k, D, d, rfl, hk, rfl, hown, hgw⟩ := hrel
    by_cases hlt : k < n
    · have hgz := hgw.size
      have hul := Lib.hid (upN_len k)
      go_wp2_with (at_builtin; go_loud (refine wpList_push (α := Int) rfl (.tmp 10) (.tmp 12) 26 rfl w.heap.size 3 i0 _ 8 Try.underlying26 hi hz0 hz1 hz2 rfl (by omega) (upN k) D d (by rw [upN_len]; rfl) wr (k : Int) rfl wr.heap.size rfl rfl (by rw [upN_len]; exact hown) (by rw [upN_len]; omega) hgz ?_); intro acc' A' c'' w9 hacc' hl1 hl2 hown' _ hgg)
      have hac : Hid (acc' = upN (k + 1)) := by unfold Hid; rw [hacc'.out, upN_succ]
      have hkl : Hid (acc'.length = k + 1) := by unfold Hid; rw [hac.out, upN_len]
      have hown2 : w9.ownsRow w.heap.size 3 1 (.slice A' (k + 1) c'') (k + 1) (flat (upN (k + 1))) := by
        have T := hown'
        rw [hkl.out, hac.out] at T
        exact T
      go_roundw
      case rel => exact ⟨k + 1, A', c'', by go_num, by omega, by rw [hkl.out], hown2, hgg w (by (repeat (first | with_reducible exact Gw.refl _ | with_reducible assumption | ((with_reducible refine Gw.set ?_ ?_ _); rotate_left; (focus (first | (simp; done) | (simp; omega) | omega))) | with_reducible refine Gw.alloc ?_ _ | with_reducible refine Gw.drew ?_ | with_reducible refine Gw.drewN ?_ _ | (refine Gw.trans ?_ (by with_reducible assumption))))) (Nat.le_refl _)⟩
      case measure => simp [intOf]; omega
    · obtain rfl : k = n := by omega
      go_wp2_with fail
      go_ret
      exact ⟨D, d, rfl, hown, hgw⟩

set_option maxHeartbeats 4000000 in
set_option maxRecDepth 100000 in
theorem s_reSchedule (A : Option Addr) (cA : Nat) (W : List (Int × Int × Int)) (B : Option Addr) (cB n : Nat) (L : List (Int × Int)) (O : Option Addr) (cO : Nat) (w : World) (hlW : W.length ≤ 1048576) (hA : Rd w A W) (hn : L.length = n) (h6 : n ≤ 6) (hB : Rd w B L) (hO : Rd w O (upN n)) (hW : WinsP W) (hL : ∀ r ∈ L, ReP r.1 r.2) :
    Calls Try.prog 50 #[.slice A W.length cA, .slice B n cB, .slice O n cO] w fun e w' => ∃ A c, e = .returned (.tuple #[.slice A (goF W L).1.length c, .bool (goF W L).2]) ∧
      w'.ownsRow w.heap.size 88 4 (.slice A (goF W L).1.length c) (goF W L).1.length (flat (goF W L).1) ∧ Gw w w' := by
  obtain ⟨i0, hi, hz0, hz1, hz2⟩ := info_parts infoBooked
  have HW := Lib.hid hW
  have HL := Lib.hid hL
  have HA := Lib.hid hA
  have HB := Lib.hid hB
  have HO := Lib.hid hO
  have Hn := Lib.hid hn
  clear hn hA hB hW hL hO
  obtain ⟨R, hR⟩ : ∃ R, Hid (schedGo W [] L = R) := ⟨_, rfl⟩
  go_enter Try.func50, Try.ntmps50
  go_wp2_with fail
  go_loopw [8, 15] (fun o q wr => ∃ (k : Nat) (acc : List B4) (D : Option Addr) (d : Nat), q = .int .i64 k ∧ k ≤ n ∧ o = .slice D acc.length d ∧ acc.length ≤ k ∧ Hid (BookP acc) ∧ wr.ownsRow w.heap.size 88 4 (.slice D acc.length d) acc.length (flat acc) ∧ Hid (schedGo W acc (L.drop k) = R) ∧ Gw w wr) (fun _ q _ => n - (intOf q).toNat)
  case atStart => exact ⟨0, [], none, 0, by go_num, Nat.zero_le _, rfl, by simp, bookP_nil, World.ownsRow_nil _ _ _ _, hR, Gw.refl _⟩
  case round =>
    obtain ⟨k, acc, D, d, rfl, hk, rfl, ha1, hbk, hown, hsc, hgw⟩ := hrel
    by_cases hlt : k < n
    · obtain ⟨r, hr⟩ := get_of_lt (l := L) (k := k) (by rw [Hn.out]; exact hlt)
      obtain ⟨b, off, rfl, hb, c0, c1⟩ := (HB.out.gw hgw).get2 hr
      obtain ⟨b2, off2, rfl, hb2, o0⟩ := (HO.out.gw hgw).get1 (upN_get hlt)
      have hre := HL.out r (mem_of_get hr)
      have Hr := Lib.hid hr
      clear hr
      obtain ⟨r1, r2⟩ := r
      dsimp only at c0 c1 o0 hre
      have HRe := Lib.hid hre
      clear hre
      have hgz := hgw.size
      cases hfb : firstB W acc (r1, r2) with
      | none =>
        have hfv := Lib.hid (firstV_none hfb)
        have hst : Hid (goF W L = ([], false)) := goF_none (by rw [hR.out, ← hsc.out]; exact sched_stop Hr.out hfb)
        clear hfb
        go_wp2_with fail
        refine (s_reFirst _ _ _ _ _ _ acc _ _ _ hlW (HA.out.gw (by (repeat (first | with_reducible exact Gw.refl _ | with_reducible assumption | ((with_reducible refine Gw.set ?_ ?_ _); rotate_left; (focus (first | (simp; done) | (simp; omega) | omega))) | with_reducible refine Gw.alloc ?_ _ | with_reducible refine Gw.drew ?_ | with_reducible refine Gw.drewN ?_ _ | (refine Gw.trans ?_ (by with_reducible assumption)))))) rfl (by omega) (own_rd (own_gw hown (by (repeat (first | with_reducible exact Gw.refl _ | with_reducible assumption | ((with_reducible refine Gw.set ?_ ?_ _); rotate_left; (focus (first | (simp; done) | (simp; omega) | omega))) | with_reducible refine Gw.alloc ?_ _ | with_reducible refine Gw.drew ?_ | with_reducible refine Gw.drewN ?_ _ | (refine Gw.trans ?_ (by with_reducible assumption))))))) HW.out hbk.out HRe.out).mono ?_
        rw [hfv.out]
        rintro _ w2 ⟨rfl, hb2⟩
        go_wp2_with fail
        go_ret2
        exact ⟨none, 0, ret_lb (A := none) (c := 0) hst.out, by rw [hst.out]; exact World.ownsRow_nil _ _ _ _, by (repeat (first | with_reducible exact Gw.refl _ | with_reducible assumption | ((with_reducible refine Gw.set ?_ ?_ _); rotate_left; (focus (first | (simp; done) | (simp; omega) | omega))) | with_reducible refine Gw.alloc ?_ _ | with_reducible refine Gw.drew ?_ | with_reducible refine Gw.drewN ?_ _ | (refine Gw.trans ?_ (by with_reducible assumption))))⟩
      | some x =>
        have hfv := Lib.hid (firstV_some hfb)
        have hst := Lib.hid (sched_step Hr.out hfb)
        have hbk2 : Hid (BookP (acc ++ [x])) := firstB_book HW.out HRe.out hbk.out (by omega) hfb
        clear hfb
        obtain ⟨x1, x2, x3, x4⟩ := x
        go_wp2_with fail
        refine (s_reFirst _ _ _ _ _ _ acc _ _ _ hlW (HA.out.gw (by (repeat (first | with_reducible exact Gw.refl _ | with_reducible assumption | ((with_reducible refine Gw.set ?_ ?_ _); rotate_left; (focus (first | (simp; done) | (simp; omega) | omega))) | with_reducible refine Gw.alloc ?_ _ | with_reducible refine Gw.drew ?_ | with_reducible refine Gw.drewN ?_ _ | (refine Gw.trans ?_ (by with_reducible assumption)))))) rfl (by omega) (own_rd (own_gw hown (by (repeat (first | with_reducible exact Gw.refl _ | with_reducible assumption | ((with_reducible refine Gw.set ?_ ?_ _); rotate_left; (focus (first | (simp; done) | (simp; omega) | omega))) | with_reducible refine Gw.alloc ?_ _ | with_reducible refine Gw.drew ?_ | with_reducible refine Gw.drewN ?_ _ | (refine Gw.trans ?_ (by with_reducible assumption))))))) HW.out hbk.out HRe.out).mono ?_
        rw [hfv.out]
        dsimp only
        rintro _ w2 ⟨rfl, hb2⟩
        have hown2 := own_gw hown hb2
        have hgw2 : Gw w w2 := by (repeat (first | with_reducible exact Gw.refl _ | with_reducible assumption | ((with_reducible refine Gw.set ?_ ?_ _); rotate_left; (focus (first | (simp; done) | (simp; omega) | omega))) | with_reducible refine Gw.alloc ?_ _ | with_reducible refine Gw.drew ?_ | with_reducible refine Gw.drewN ?_ _ | (refine Gw.trans ?_ (by with_reducible assumption))))
        have hgz2 := hgw2.size
        go_wp2_with (at_builtin; go_loud (refine wpList_push (α := B4) rfl (.tmp 31) (.tmp 33) 43 rfl w.heap.size 88 i0 _ 32 Try.underlying43 hi hz0 hz1 hz2 rfl (by omega) acc D d rfl _ (x1, x2, x3, x4) rfl (w2.heap.size + 1) (by simp) rfl (hown2.alloc _) (by omega) (by simp; omega) ?_); intro acc' A' c'' w9 hacc' hl1 hl2 hown' _ hgg)
        go_roundw
        case rel => exact ⟨k + 1, acc', A', c'', by go_num, by omega, rfl, by omega, by unfold Hid; rw [hacc'.out]; exact hbk2.out, hown', by unfold Hid; rw [hacc'.out, ← hst.out]; exact hsc.out, hgg w (by (repeat (first | with_reducible exact Gw.refl _ | with_reducible assumption | ((with_reducible refine Gw.set ?_ ?_ _); rotate_left; (focus (first | (simp; done) | (simp; omega) | omega))) | with_reducible refine Gw.alloc ?_ _ | with_reducible refine Gw.drew ?_ | with_reducible refine Gw.drewN ?_ _ | (refine Gw.trans ?_ (by with_reducible assumption))))) (Nat.le_refl _)⟩
        case measure => simp [intOf]; omega
    · have hfin : Hid (goF W L = (acc, true)) := goF_some (by rw [hR.out, ← hsc.out, List.drop_of_length_le (by rw [Hn.out]; omega)]; rfl)
      go_wp2_with fail
      go_ret2
      exact ⟨D, d, ret_lb hfin.out, by rw [hfin.out]; exact hown, hgw⟩

set_option maxHeartbeats 4000000 in
theorem s_FirstSchedule (A : Option Addr) (cA : Nat) (W : List (Int × Int × Int)) (B : Option Addr) (cB : Nat) (L : List (Int × Int)) (w : World) (hlW : W.length ≤ 1048576) (hA : Rd w A W) (_hcA : W.length ≤ cA) (hlL : L.length ≤ 1048576) (hB : Rd w B L) (_hcB : L.length ≤ cB) :
    Calls Try.prog 20 #[.slice A W.length cA, .slice B L.length cB] w fun e w' => ∃ A c, e = .returned (.tuple #[.slice A (planF W L).1.length c, .bool (planF W L).2]) ∧
      w'.ownsRow w.heap.size 88 4 (.slice A (planF W L).1.length c) (planF W L).1.length (flat (planF W L).1) ∧ Gw w w' := by
  have HA := Lib.hid hA
  have HB := Lib.hid hB
  go_enter Try.func20, Try.ntmps20
  go_wp2_with fail
  refine (s_wnGood _ _ _ _ hlW hA).mono ?_
  rintro _ w1 (⟨hp, rfl, hb1⟩ | ⟨hp, rfl, hb1⟩)
  case inr =>
    have hno := Lib.hid (planF_bad (W := W) (L := L) (fun h => hp h.1))
    clear hp
    go_wp2_with fail
    go_ret2
    exact ⟨none, 0, ret_lb (A := none) (c := 0) hno.out, by rw [hno.out]; exact World.ownsRow_nil _ _ _ _, by (repeat (first | with_reducible exact Gw.refl _ | with_reducible assumption | ((with_reducible refine Gw.set ?_ ?_ _); rotate_left; (focus (first | (simp; done) | (simp; omega) | omega))) | with_reducible refine Gw.alloc ?_ _ | with_reducible refine Gw.drew ?_ | with_reducible refine Gw.drewN ?_ _ | (refine Gw.trans ?_ (by with_reducible assumption))))⟩
  have HW := Lib.hid hp
  clear hp
  go_wp2_with fail
  refine (s_reGood _ _ _ _ hlL (hB.gw hb1)).mono ?_
  rintro _ w2 (⟨hp, rfl, hb2⟩ | ⟨hp, rfl, hb2⟩)
  case inr =>
    have hno := Lib.hid (planF_bad (W := W) (L := L) (fun h => hp h.2))
    clear hp
    go_wp2_with fail
    go_ret2
    exact ⟨none, 0, ret_lb (A := none) (c := 0) hno.out, by rw [hno.out]; exact World.ownsRow_nil _ _ _ _, by (repeat (first | with_reducible exact Gw.refl _ | with_reducible assumption | ((with_reducible refine Gw.set ?_ ?_ _); rotate_left; (focus (first | (simp; done) | (simp; omega) | omega))) | with_reducible refine Gw.alloc ?_ _ | with_reducible refine Gw.drew ?_ | with_reducible refine Gw.drewN ?_ _ | (refine Gw.trans ?_ (by with_reducible assumption))))⟩
  have HP := Lib.hid hp
  have hl6 := hp.2
  clear hp hA hB
  have hpg := Lib.hid (planF_go ⟨HW.out, HP.out⟩)
  have hG2 := Gw.trans hb1 hb2
  go_wp2_with fail
  refine (s_reOrder _ _ L.length _ (by omega)).mono ?_
  rintro _ w3 ⟨A3, c3, rfl, hown3, hb3⟩
  have hG3 := Gw.trans hG2 hb3
  have hO3 : Rd w3 A3 (upN L.length) := own_rd (c := c3) (by rw [upN_len]; exact hown3)
  have HO := Lib.hid hO3
  clear hO3
  go_wp2_with fail
  refine (s_reSchedule _ _ _ _ _ _ L _ _ _ hlW (HA.out.gw hG3) rfl (by omega) (HB.out.gw hG3) HO.out HW.out HP.out.1).mono ?_
  rw [← hpg.out]
  rintro _ w4 ⟨A4, c4, rfl, hown4, hb4⟩
  go_wp2_with fail
  go_ret2
  exact ⟨A4, c4, rfl, own_lower hown4 hG3.size, by (repeat (first | with_reducible exact Gw.refl _ | with_reducible assumption | ((with_reducible refine Gw.set ?_ ?_ _); rotate_left; (focus (first | (simp; done) | (simp; omega) | omega))) | with_reducible refine Gw.alloc ?_ _ | with_reducible refine Gw.drew ?_ | with_reducible refine Gw.drewN ?_ _ | (refine Gw.trans ?_ (by with_reducible assumption))))⟩
end Go.Proofs.Ytipndibiioajmaa
