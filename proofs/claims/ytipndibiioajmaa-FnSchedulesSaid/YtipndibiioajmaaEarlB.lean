/-
  The first schedule: the program's way.
-/
import Derived.Test.YtipndibiioajmaaEarl
namespace Go.Proofs.Ytipndibiioajmaa
open Go.RowKit

noncomputable def goF (W : List (Int × Int × Int)) (L : List (Int × Int)) : List B4 × Bool := match schedGo W [] L with
  | some S => (S, true)
  | none => ([], false)
theorem goF_some {W : List (Int × Int × Int)} {L : List (Int × Int)} {S : List B4} (h : schedGo W [] L = some S) : goF W L = (S, true) := by unfold goF; rw [h]
theorem goF_none {W : List (Int × Int × Int)} {L : List (Int × Int)} (h : schedGo W [] L = none) : goF W L = ([], false) := by unfold goF; rw [h]
theorem planF_go {W : List (Int × Int × Int)} {L : List (Int × Int)} (h : WinsP W ∧ RehP L) : planF W L = goF W L := by
  cases hs : schedGo W [] L with
  | none => rw [planF_none hs, goF_none hs]
  | some S => rw [planF_some h hs, goF_some hs]
theorem firstV_some {W : List (Int × Int × Int)} {S : List B4} {r : Int × Int} {x : B4} (h : firstB W S r = some x) : firstV W S r = (x, true) := by unfold firstV; rw [h]
theorem firstV_none {W : List (Int × Int × Int)} {S : List B4} {r : Int × Int} (h : firstB W S r = none) : firstV W S r = ((0, 0, 0, 0), false) := by unfold firstV; rw [h]
theorem sched_step {W : List (Int × Int × Int)} {acc : List B4} {L : List (Int × Int)} {k : Nat} {r : Int × Int} {x : B4} (hr : L[k]? = some r) (h : firstB W acc r = some x) : schedGo W acc (L.drop k) = schedGo W (acc ++ [x]) (L.drop (k + 1)) := by
  rw [drop_of' hr, schedGo_cons_some h]
theorem sched_stop {W : List (Int × Int × Int)} {acc : List B4} {L : List (Int × Int)} {k : Nat} {r : Int × Int} (hr : L[k]? = some r) (h : firstB W acc r = none) : schedGo W acc (L.drop k) = none := by
  rw [drop_of' hr, schedGo_cons_none h]

set_option maxHeartbeats 4000000 in
set_option maxRecDepth 100000 in
theorem i_firstSchedule (A : Option Addr) (cA : Nat) (W : List (Int × Int × Int)) (B : Option Addr) (cB n : Nat) (L : List (Int × Int)) (w : World) (hlW : W.length ≤ 1048576) (hA : Rd w A W) (hn : L.length = n) (hlL : n ≤ 1000) (hB : Rd w B L) (hW : WinsP W) (hL : ∀ r ∈ L, ReP r.1 r.2) :
    Calls Try.prog 45 #[.slice A W.length cA, .slice B n cB] w fun e w' => ∃ A c, e = .returned (.tuple #[.slice A (goF W L).1.length c, .bool (goF W L).2]) ∧
      w'.ownsRow w.heap.size 88 4 (.slice A (goF W L).1.length c) (goF W L).1.length (flat (goF W L).1) ∧ Gw w w' := by
  obtain ⟨i0, hi, hz0, hz1, hz2⟩ := info_parts infoBooked
  have HW := Lib.hid hW
  have HL := Lib.hid hL
  have HA := Lib.hid hA
  have HB := Lib.hid hB
  have Hn := Lib.hid hn
  clear hn hA hB hW hL
  obtain ⟨R, hR⟩ : ∃ R, Hid (schedGo W [] L = R) := ⟨_, rfl⟩
  go_enter Try.func45, Try.ntmps45
  go_wp2_with fail
  go_loopw [6, 14] (fun o q wr => ∃ (k : Nat) (acc : List B4) (D : Option Addr) (d : Nat), q = .int .i64 k ∧ k ≤ n ∧ o = .slice D acc.length d ∧ acc.length ≤ k ∧ wr.ownsRow w.heap.size 88 4 (.slice D acc.length d) acc.length (flat acc) ∧ Hid (schedGo W acc (L.drop k) = R) ∧ Gw w wr) (fun _ q _ => n - (intOf q).toNat)
  case atStart => exact ⟨0, [], some ⟨w.heap.size, 0, none⟩, 0, by go_num, Nat.zero_le _, rfl, by simp, World.ownsRow_made w #[] 0 (Nat.le_refl _) (by simp [maxLen]) (by simp), hR, by (repeat (first | with_reducible exact Gw.refl _ | with_reducible assumption | ((with_reducible refine Gw.set ?_ ?_ _); rotate_left; (focus (first | (simp; done) | (simp; omega) | omega))) | with_reducible refine Gw.alloc ?_ _ | with_reducible refine Gw.drew ?_ | with_reducible refine Gw.drewN ?_ _ | (refine Gw.trans ?_ (by with_reducible assumption))))⟩
  case round =>
    obtain ⟨k, acc, D, d, rfl, hk, rfl, ha1, hown, hsc, hgw⟩ := hrel
    by_cases hlt : k < n
    · obtain ⟨r, hr⟩ := get_of_lt (l := L) (k := k) (by rw [Hn.out]; exact hlt)
      obtain ⟨b, off, rfl, hb, c0, c1⟩ := (HB.out.gw hgw).get2 hr
      have hre := HL.out r (mem_of_get hr)
      have Hr := Lib.hid hr
      clear hr
      obtain ⟨r1, r2⟩ := r
      dsimp only at c0 c1 hre
      have HRe := Lib.hid hre
      clear hre
      have hgz := hgw.size
      cases hfb : firstB W acc (r1, r2) with
      | none =>
        have hfv := Lib.hid (firstV_none hfb)
        have hst : Hid (goF W L = ([], false)) := goF_none (by rw [hR.out, ← hsc.out]; exact sched_stop Hr.out hfb)
        clear hfb
        go_wp2_with fail
        refine (i_earliest _ _ _ _ _ _ acc _ _ _ hlW (HA.out.gw (by (repeat (first | with_reducible exact Gw.refl _ | with_reducible assumption | ((with_reducible refine Gw.set ?_ ?_ _); rotate_left; (focus (first | (simp; done) | (simp; omega) | omega))) | with_reducible refine Gw.alloc ?_ _ | with_reducible refine Gw.drew ?_ | with_reducible refine Gw.drewN ?_ _ | (refine Gw.trans ?_ (by with_reducible assumption)))))) rfl (by omega) (own_rd (own_gw hown (by (repeat (first | with_reducible exact Gw.refl _ | with_reducible assumption | ((with_reducible refine Gw.set ?_ ?_ _); rotate_left; (focus (first | (simp; done) | (simp; omega) | omega))) | with_reducible refine Gw.alloc ?_ _ | with_reducible refine Gw.drew ?_ | with_reducible refine Gw.drewN ?_ _ | (refine Gw.trans ?_ (by with_reducible assumption))))))) HW.out HRe.out).mono ?_
        rw [hfv.out]
        rintro _ w2 ⟨rfl, hb2⟩
        go_wp2_with fail
        go_ret2
        exact ⟨none, 0, ret_lb (A := none) (c := 0) hst.out, by rw [hst.out]; exact World.ownsRow_nil _ _ _ _, by (repeat (first | with_reducible exact Gw.refl _ | with_reducible assumption | ((with_reducible refine Gw.set ?_ ?_ _); rotate_left; (focus (first | (simp; done) | (simp; omega) | omega))) | with_reducible refine Gw.alloc ?_ _ | with_reducible refine Gw.drew ?_ | with_reducible refine Gw.drewN ?_ _ | (refine Gw.trans ?_ (by with_reducible assumption))))⟩
      | some x =>
        have hfv := Lib.hid (firstV_some hfb)
        have hst := Lib.hid (sched_step Hr.out hfb)
        clear hfb
        obtain ⟨x1, x2, x3, x4⟩ := x
        go_wp2_with fail
        refine (i_earliest _ _ _ _ _ _ acc _ _ _ hlW (HA.out.gw (by (repeat (first | with_reducible exact Gw.refl _ | with_reducible assumption | ((with_reducible refine Gw.set ?_ ?_ _); rotate_left; (focus (first | (simp; done) | (simp; omega) | omega))) | with_reducible refine Gw.alloc ?_ _ | with_reducible refine Gw.drew ?_ | with_reducible refine Gw.drewN ?_ _ | (refine Gw.trans ?_ (by with_reducible assumption)))))) rfl (by omega) (own_rd (own_gw hown (by (repeat (first | with_reducible exact Gw.refl _ | with_reducible assumption | ((with_reducible refine Gw.set ?_ ?_ _); rotate_left; (focus (first | (simp; done) | (simp; omega) | omega))) | with_reducible refine Gw.alloc ?_ _ | with_reducible refine Gw.drew ?_ | with_reducible refine Gw.drewN ?_ _ | (refine Gw.trans ?_ (by with_reducible assumption))))))) HW.out HRe.out).mono ?_
        rw [hfv.out]
        dsimp only
        rintro _ w2 ⟨rfl, hb2⟩
        have hown2 := own_gw (own_gw hown ((Gw.refl wr).alloc (.cells #[.int .i64 r1, .int .i64 r2] 59))) hb2
        have hgw2 : Gw w w2 := by (repeat (first | with_reducible exact Gw.refl _ | with_reducible assumption | ((with_reducible refine Gw.set ?_ ?_ _); rotate_left; (focus (first | (simp; done) | (simp; omega) | omega))) | with_reducible refine Gw.alloc ?_ _ | with_reducible refine Gw.drew ?_ | with_reducible refine Gw.drewN ?_ _ | (refine Gw.trans ?_ (by with_reducible assumption))))
        have hgz2 := hgw2.size
        go_wp2_with (at_builtin; refine wpList_push (α := B4) rfl (.tmp 27) (.tmp 29) 43 rfl w.heap.size 88 i0 _ 32 Try.underlying43 hi hz0 hz1 hz2 rfl (by omega) acc D d rfl _ (x1, x2, x3, x4) rfl (w2.heap.size + 1) (by simp) rfl (hown2.alloc _) (by omega) (by simp; omega) ?_; intro acc' A' c'' w9 hacc' hl1 hl2 hown' _ hgg)
        go_roundw
        case rel => exact ⟨k + 1, acc', A', c'', by go_num, by omega, rfl, by omega, hown', by unfold Hid; rw [hacc'.out, ← hst.out]; exact hsc.out, hgg w (by (repeat (first | with_reducible exact Gw.refl _ | with_reducible assumption | ((with_reducible refine Gw.set ?_ ?_ _); rotate_left; (focus (first | (simp; done) | (simp; omega) | omega))) | with_reducible refine Gw.alloc ?_ _ | with_reducible refine Gw.drew ?_ | with_reducible refine Gw.drewN ?_ _ | (refine Gw.trans ?_ (by with_reducible assumption))))) (Nat.le_refl _)⟩
        case measure => simp [intOf]; omega
    · have hfin : Hid (goF W L = (acc, true)) := goF_some (by rw [hR.out, ← hsc.out, List.drop_of_length_le (by rw [Hn.out]; omega)]; rfl)
      go_wp2_with fail
      go_ret2
      exact ⟨D, d, ret_lb hfin.out, by rw [hfin.out]; exact hown, hgw⟩

set_option maxHeartbeats 4000000 in
theorem i_FirstSchedule (A : Option Addr) (cA : Nat) (W : List (Int × Int × Int)) (B : Option Addr) (cB : Nat) (L : List (Int × Int)) (w : World) (hlW : W.length ≤ 1048576) (hA : Rd w A W) (_hcA : W.length ≤ cA) (hlL : L.length ≤ 1048576) (hB : Rd w B L) (_hcB : L.length ≤ cB) :
    Calls Try.prog 19 #[.slice A W.length cA, .slice B L.length cB] w fun e w' => ∃ A c, e = .returned (.tuple #[.slice A (planF W L).1.length c, .bool (planF W L).2]) ∧
      w'.ownsRow w.heap.size 88 4 (.slice A (planF W L).1.length c) (planF W L).1.length (flat (planF W L).1) ∧ Gw w w' := by
  have HA := Lib.hid hA
  have HB := Lib.hid hB
  go_enter Try.func19, Try.ntmps19
  go_wp2_with fail
  refine (i_AreWindows _ _ _ _ hlW hA).mono ?_
  rintro _ w1 (⟨hp, rfl, hb1⟩ | ⟨hp, rfl, hb1⟩)
  case inr =>
    have hno := Lib.hid (planF_bad (W := W) (L := L) (fun h => hp h.1))
    clear hp
    go_wp2_with fail
    go_ret2
    exact ⟨none, 0, ret_lb (A := none) (c := 0) hno.out, by rw [hno.out]; exact World.ownsRow_nil _ _ _ _, by (repeat (first | with_reducible exact Gw.refl _ | with_reducible assumption | ((with_reducible refine Gw.set ?_ ?_ _); rotate_left; (focus (first | (simp; done) | (simp; omega) | omega))) | with_reducible refine Gw.alloc ?_ _ | with_reducible refine Gw.drew ?_ | with_reducible refine Gw.drewN ?_ _ | (refine Gw.trans ?_ (by with_reducible assumption))))⟩
  have HW := Lib.hid hp
  clear hp
  go_wp2_with fail
  refine (i_AreRehearsals _ _ _ _ hlL (hB.gw hb1)).mono ?_
  rintro _ w2 (⟨hp, rfl, hb2⟩ | ⟨hp, rfl, hb2⟩)
  case inr =>
    have hno := Lib.hid (planF_bad (W := W) (L := L) (fun h => hp h.2))
    clear hp
    go_wp2_with fail
    go_ret2
    exact ⟨none, 0, ret_lb (A := none) (c := 0) hno.out, by rw [hno.out]; exact World.ownsRow_nil _ _ _ _, by (repeat (first | with_reducible exact Gw.refl _ | with_reducible assumption | ((with_reducible refine Gw.set ?_ ?_ _); rotate_left; (focus (first | (simp; done) | (simp; omega) | omega))) | with_reducible refine Gw.alloc ?_ _ | with_reducible refine Gw.drew ?_ | with_reducible refine Gw.drewN ?_ _ | (refine Gw.trans ?_ (by with_reducible assumption))))⟩
  have HP := Lib.hid hp
  have hl6 := hp.2
  clear hp hA hB
  have hpg := Lib.hid (planF_go ⟨HW.out, HP.out⟩)
  have hG2 := Gw.trans hb1 hb2
  go_wp2_with fail
  refine (i_firstSchedule _ _ _ _ _ _ L _ hlW (HA.out.gw hG2) rfl (by omega) (HB.out.gw hG2) HW.out HP.out.1).mono ?_
  rw [← hpg.out]
  rintro _ w3 ⟨A3, c3, rfl, hown, hb3⟩
  go_wp2_with fail
  go_ret2
  exact ⟨A3, c3, rfl, own_lower hown hG2.size, by (repeat (first | with_reducible exact Gw.refl _ | with_reducible assumption | ((with_reducible refine Gw.set ?_ ?_ _); rotate_left; (focus (first | (simp; done) | (simp; omega) | omega))) | with_reducible refine Gw.alloc ?_ _ | with_reducible refine Gw.drew ?_ | with_reducible refine Gw.drewN ?_ _ | (refine Gw.trans ?_ (by with_reducible assumption))))⟩
end Go.Proofs.Ytipndibiioajmaa
