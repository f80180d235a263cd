/-
  The reference's ParseWindows.
-/
import Derived.Test.YtgbgmmdpldekbaaDoorParseS
import Derived.Test.YtgbgmmdpldekbaaDoorParseQ
import Derived.Test.YtgbgmmdpldekbaaDoorParseH
namespace Go.Proofs.YtgbgmmdpldekbaaDoor
open Go.RowKit

set_option maxHeartbeats 8000000 in
set_option maxRecDepth 20000 in
theorem s_ParseWindows (s : ByteArray) (w : World) (hs : s.size ≤ 1048576) :
    Calls Tryd.prog 43 #[.string s] w fun e w' => ∃ A d, e = .returned (.tuple #[.slice A (prsF s).1.length d, .bool (prsF s).2]) ∧
      w'.ownsRow w.heap.size 68 3 (.slice A (prsF s).1.length d) (prsF s).1.length (flat (prsF s).1) ∧ Gw w w' := by
  obtain ⟨i0, hi, hz0, hz1, hz2⟩ := info_parts infoWindow
  obtain ⟨P, hP⟩ : ∃ P, Hid (pcs 10 s = P) := ⟨_, rfl⟩
  have T := s_l1Split s 10 w hs
  rw [hP.out] at T
  have HT := Lib.hid T
  clear T
  have hne : P ≠ [] := by rw [← hP.out]; exact pcs_ne 10 s
  have hplen : P.length ≤ 1048577 := by rw [← hP.out]; have := pcs_len 10 s; omega
  have HZ : Hid (∀ x ∈ P, x.size ≤ 1048576) := fun x hx => Nat.le_trans (pcs_short' (c := 10) (s := s) (by rw [hP.out]; exact hx)) hs
  obtain ⟨n, hn⟩ : ∃ n, Hid (P.length = n + 1) := ⟨P.length - 1, by unfold Hid; have := List.length_pos_iff.2 hne; omega⟩
  have hdl : Hid (P.dropLast.length = n) := by unfold Hid; rw [List.length_dropLast, hn.out]; rfl
  clear hne
  go_enter Tryd.func43, Tryd.ntmps43
  go_wp2_with fail
  refine HT.out.mono ?_
  rw [hn.out]
  rintro _ w1 ⟨A1, d1, rfl, hown1, hb1⟩
  rw [hn.out] at hplen
  obtain ⟨g1, hA1, hg11, hg12⟩ := own_addr hown1 (by omega)
  subst hA1
  by_cases h21 : n + 1 ≤ 21
  case neg =>
    have hno := Lib.hid (prsF_no (s := s) (fun h => by have := h.1; rw [hP.out, hn.out] at this; exact h21 this))
    have h21z : (21 : Int) < ((n : Int) + 1) := by omega
    clear hown1
    go_wp2_with fail
    go_ret2
    exact ⟨none, 0, by rw [hno.out]; rfl, by rw [hno.out]; exact World.ownsRow_nil _ _ _ _, by (repeat (first | with_reducible exact Gw.refl _ | with_reducible assumption | ((with_reducible refine Gw.set ?_ ?_ _); rotate_left; (focus (first | (simp; done) | (simp; omega) | omega))) | with_reducible refine Gw.alloc ?_ _ | with_reducible refine Gw.drew ?_ | with_reducible refine Gw.drewN ?_ _ | (refine Gw.trans ?_ (by with_reducible assumption))))⟩
  have h21z : ¬(21 : Int) < ((n : Int) + 1) := by omega
  have hsb : IntKind.i64.wrap ((n : Int) + 1 - 1) = (n : Int) := by rw [IntWalk.i64_in _ (by omega)]; omega
  have hn0 : (0 : Int) ≤ (n : Int) := by omega
  have hcap := (own_cap hown1).1
  have hncz : (n : Int) ≤ (d1 : Int) := by omega
  have hz1' := hb1.size
  have HO1 := Lib.hid hown1
  clear hown1
  go_wp2_with fail
  go_loopw [5, 7, 8, 20] (fun o _ _ q wr => ∃ (k : Nat) (acc : List W3p) (D : Option Addr) (d : Nat), q = .int .i64 k ∧ k ≤ n ∧ o = .slice D acc.length d ∧ Hid (acc = (P.dropLast.take k).map winR) ∧ Hid (AllTo L3 P.dropLast k) ∧ wr.ownsRow w1.heap.size 68 3 (.slice D acc.length d) acc.length (flat acc) ∧ Gw w1 wr) (fun _ _ _ q _ => n - (intOf q).toNat)
  case atStart => exact ⟨0, [], none, 0, by go_num, Nat.zero_le _, rfl, by unfold Hid; simp, AllTo.zero, World.ownsRow_nil _ _ _ _, by (repeat (first | with_reducible exact Gw.refl _ | with_reducible assumption | ((with_reducible refine Gw.set ?_ ?_ _); rotate_left; (focus (first | (simp; done) | (simp; omega) | omega))) | with_reducible refine Gw.alloc ?_ _ | with_reducible refine Gw.drew ?_ | with_reducible refine Gw.drewN ?_ _ | (refine Gw.trans ?_ (by with_reducible assumption))))⟩
  case round =>
    obtain ⟨k, acc, D, d, rfl, hk, rfl, hacc, hall, hown, hgw⟩ := hrel
    obtain ⟨wo, rfl⟩ : ∃ wo : World, wo = wr := ⟨_, rfl⟩
    have hgw0 : Gw w wo := Gw.trans hb1 hgw
    have hal : acc.length ≤ k := by rw [hacc.out, List.length_map, List.length_take]; omega
    by_cases hlt : k < n
    · obtain ⟨x, hx⟩ := get_of_lt (show k < P.dropLast.length by rw [hdl.out]; exact hlt)
      have hxP : P[k]? = some x := by
        rw [List.getElem?_dropLast] at hx
        split at hx
        · exact hx
        · cases hx
      have c0 := own_cellsT hn.out (own_gw HO1.out hgw) hxP
      have Hx := Lib.hid hx
      have hxs := HZ.out x (mem_of_get hxP)
      have hkz : (k : Int) < (n : Int) := by omega
      clear hx hxP
      have T3 := s_l1Split x 32 wo hxs
      by_cases h3 : L3 x
      case neg =>
        have hno := Lib.hid (prsF_no (s := s) (fun h => h3 (by have := h.2.1; rw [hP.out] at this; exact this x (mem_of_get Hx.out))))
        obtain ⟨m, hm⟩ : ∃ m, Hid ((pcs 32 x).length = m) := ⟨_, rfl⟩
        have hm3 : m ≠ 3 := fun e => h3 (by unfold L3; rw [hm.out, e])
        have e1 : ((m : Int) == 3) = false := by rw [beq_eq_false_iff_ne]; omega
        rw [hm.out] at T3
        have H3 := Lib.hid T3
        clear T3 h3 hm3
        go_wp2_with fail
        refine H3.out.mono ?_
        rintro _ w3 ⟨A3, d3, rfl, hown3, hb3⟩
        clear hown3
        go_wp2_with fail
        go_ret2
        exact ⟨none, 0, by rw [hno.out]; rfl, by rw [hno.out]; exact World.ownsRow_nil _ _ _ _, by (repeat (first | with_reducible exact Gw.refl _ | with_reducible assumption | ((with_reducible refine Gw.set ?_ ?_ _); rotate_left; (focus (first | (simp; done) | (simp; omega) | omega))) | with_reducible refine Gw.alloc ?_ _ | with_reducible refine Gw.drew ?_ | with_reducible refine Gw.drewN ?_ _ | (refine Gw.trans ?_ (by with_reducible assumption))))⟩
      have hz0' := word_short h3 0 (by omega)
      have hz1'' := word_short h3 1 (by omega)
      have hz2'' := word_short h3 2 (by omega)
      rw [h3.pcs] at T3
      obtain ⟨x0, hx0⟩ : ∃ y, Hid (toB (word x 0) = y) := ⟨_, rfl⟩
      obtain ⟨x1, hx1⟩ : ∃ y, Hid (toB (word x 1) = y) := ⟨_, rfl⟩
      obtain ⟨x2, hx2⟩ : ∃ y, Hid (toB (word x 2) = y) := ⟨_, rfl⟩
      rw [hx0.out, hx1.out, hx2.out] at T3
      rw [hx0.out] at hz0'
      rw [hx1.out] at hz1''
      rw [hx2.out] at hz2''
      have z0 : x0.size ≤ 1048576 := by omega
      have z1 : x1.size ≤ 1048576 := by omega
      have z2 : x2.size ≤ 1048576 := by omega
      have hwin : Hid (winR x = (rdF x0.data.toList, rdF x1.data.toList, rdF x2.data.toList)) := by unfold Hid winR; rw [← hx0.out, ← hx1.out, ← hx2.out]; rfl
      have H3 := Lib.hid T3
      have hal2 := Lib.hid (AllTo.succ hall.out Hx.out h3)
      have hnx : Hid (acc ++ [((rdF x0.data.toList), (rdF x1.data.toList), (rdF x2.data.toList))] = (P.dropLast.take (k + 1)).map winR) := by unfold Hid; rw [List.take_add_one, Hx.out, Option.toList_some, List.map_append, ← hacc.out, List.map_cons, List.map_nil, hwin.out]
      clear T3 h3 hz0' hz1'' hz2''
      go_wp2_with fail
      refine H3.out.mono ?_
      rintro _ w3 ⟨A3, d3, rfl, hown3, hb3⟩
      obtain ⟨g3, hA3, hg31, hg32⟩ := own_addr hown3 (by simp)
      subst hA3
      have q0 := own_cellsT (k := 0) rfl hown3 rfl
      have q1 := own_cellsT (k := 1) rfl hown3 rfl
      have q2 := own_cellsT (k := 2) rfl hown3 rfl
      have hacc3 := own_gw hown hb3
      have hgw3 : Gw w1 w3 := Gw.trans hgw hb3
      have hgz3 := hgw3.size
      have hks : ∀ u, Gw w3 u → u.cell? ⟨g3, 0, none⟩ = some (.string x0) ∧ u.cell? ⟨g3, 1, none⟩ = some (.string x1) ∧ u.cell? ⟨g3, 2, none⟩ = some (.string x2) := fun u hu => ⟨(hu.cells _ _ hg32).trans q0, (hu.cells _ _ hg32).trans q1, (hu.cells _ _ hg32).trans q2⟩
      have Hks := Lib.hid hks
      clear hks hown
      go_wp2_with fail
      go_region_held3 (fun u => u.cell? ⟨g3, 0, none⟩ = some (.string x0) ∧ u.cell? ⟨g3, 1, none⟩ = some (.string x1) ∧ u.cell? ⟨g3, 2, none⟩ = some (.string x2)) (first | with_reducible assumption | exact Hks.out _ (by (repeat (first | with_reducible exact Gw.refl _ | with_reducible assumption | ((with_reducible refine Gw.set ?_ ?_ _); rotate_left; (focus (first | (simp; done) | (simp; omega) | omega))) | with_reducible refine Gw.alloc ?_ _ | with_reducible refine Gw.drew ?_ | with_reducible refine Gw.drewN ?_ _ | (refine Gw.trans ?_ (by with_reducible assumption))))) | go_keep)
        (first
          | (go_at_call 85; refine (s_l1Read _ _ (by assumption)).mono ?_; rintro e w5 ⟨rfl, rfl⟩)
          | (refine step_cat (α := W3p) rfl (.tmp 29) (.tmp 43) 23 (by rfl) w1.heap.size 68 i0 _ 24 Tryd.underlying23 hi hz0 hz1 hz2 rfl (by omega) acc acc.length rfl D d (by rfl) [((rdF x0.data.toList), (rdF x1.data.toList), (rdF x2.data.toList))] 1 rfl _ 1 (by rfl) ((rdBox w3 _ ((rdF x0.data.toList), (rdF x1.data.toList), (rdF x2.data.toList))).gw (Gw.refl _).drew) (hacc3.alloc _).drew (by omega) (by omega) (Gw.size (by (repeat (first | with_reducible exact Gw.refl _ | with_reducible assumption | ((with_reducible refine Gw.set ?_ ?_ _); rotate_left; (focus (first | (simp; done) | (simp; omega) | omega))) | with_reducible refine Gw.alloc ?_ _ | with_reducible refine Gw.drew ?_ | with_reducible refine Gw.drewN ?_ _ | (refine Gw.trans ?_ (by with_reducible assumption)))))) ?_; intro A9 c9 w9 hown9 hgg9 hgr9; have hgw9 : Gw w1 w9 := hgg9 w1 (by (repeat (first | with_reducible exact Gw.refl _ | with_reducible assumption | ((with_reducible refine Gw.set ?_ ?_ _); rotate_left; (focus (first | (simp; done) | (simp; omega) | omega))) | with_reducible refine Gw.alloc ?_ _ | with_reducible refine Gw.drew ?_ | with_reducible refine Gw.drewN ?_ _ | (refine Gw.trans ?_ (by with_reducible assumption))))) (Nat.le_refl _); have hb9 := own_beside (by decide) (hown3.alloc (.cells #[.int .i64 (rdF x0.data.toList), .int .i64 (rdF x1.data.toList), .int .i64 (rdF x2.data.toList)] 68)).drew (hacc3.alloc (.cells #[.int .i64 (rdF x0.data.toList), .int .i64 (rdF x1.data.toList), .int .i64 (rdF x2.data.toList)] 68)).drew hgr9; have hk9 := (⟨own_cellsT (k := 0) rfl hb9 rfl, own_cellsT (k := 1) rfl hb9 rfl, own_cellsT (k := 2) rfl hb9 rfl⟩ : w9.cell? ⟨g3, 0, none⟩ = some (.string x0) ∧ w9.cell? ⟨g3, 1, none⟩ = some (.string x1) ∧ w9.cell? ⟨g3, 2, none⟩ = some (.string x2)); clear hgg9 hgr9))
      all_goals
        obtain ⟨acc9, hacc9⟩ : ∃ r, Hid (r = acc ++ [((rdF x0.data.toList), (rdF x1.data.toList), (rdF x2.data.toList))]) := ⟨_, rfl⟩
        have hal9 : Hid (acc9.length = acc.length + 1) := by unfold Hid; rw [hacc9.out]; simp
        rw [← hacc9.out, ← hal9.out] at hown9
        rw [← hal9.out]
        go_wp2_with fail
        go_roundw
        case rel => exact ⟨k + 1, acc9, A9, c9, by go_num, by omega, rfl, by unfold Hid; rw [hacc9.out]; exact hnx.out, hal2, hown9, hgw9⟩
        case measure => simp [intOf] <;> omega
    · obtain rfl : k = n := by omega
      have hfin : Hid (acc = P.dropLast.map winR) := by unfold Hid; rw [hacc.out, ← hdl.out, List.take_length]
      have h3l := Lib.hid (AllTo.all hall.out (by rw [hdl.out]; exact Nat.le_refl _))
      have hr5 := Lib.hid (own_rd hown)
      have hal20 : acc.length ≤ 20 := by omega
      have hgz := hgw0.size
      go_wp2_with fail
      refine (s_wnGood _ _ _ _ (by omega) hr5.out).mono ?_
      rintro _ w6 (⟨hgd, rfl, hb6⟩ | ⟨hgd, rfl, hb6⟩)
      case inr =>
        have hf : Hid (prsF s = ([], false)) := by
          unfold Hid
          refine prsF_no fun h => hgd ?_
          have := h.2.2.1
          rw [hP.out] at this
          rw [hfin.out]
          exact this
        clear hgd
        go_wp2_with fail
        go_ret2
        exact ⟨none, 0, by rw [hf.out]; rfl, by rw [hf.out]; exact World.ownsRow_nil _ _ _ _, by (repeat (first | with_reducible exact Gw.refl _ | with_reducible assumption | ((with_reducible refine Gw.set ?_ ?_ _); rotate_left; (focus (first | (simp; done) | (simp; omega) | omega))) | with_reducible refine Gw.alloc ?_ _ | with_reducible refine Gw.drew ?_ | with_reducible refine Gw.drewN ?_ _ | (refine Gw.trans ?_ (by with_reducible assumption))))⟩
      have hline := wtxF_line hgd
      have T6 := s_wnText D d acc w6 hal20 (hr5.out.gw hb6) hline
      have HG := Lib.hid hgd
      clear hgd hline
      by_cases ht : cat lineW acc = s
      · have hf : Hid (prsF s = (acc, true)) := by
          unfold Hid
          have hd := hfin.out
          rw [prsF_yes, hP.out, ← hd]
          rw [hP.out, ← hd]
          exact ⟨by rw [hn.out]; exact h21, h3l.out, HG.out, ht⟩
        rw [ht] at T6
        have H6 := Lib.hid T6
        have e1 := beq_yes (rfl : s = s)
        clear T6 ht
        go_wp2_with fail
        refine H6.out.mono ?_
        rintro _ w7 ⟨rfl, hb7⟩
        go_wp2_with fail
        go_ret2
        exact ⟨D, d, by rw [hf.out]; rfl, by rw [hf.out]; exact own_lower (own_gw (own_gw hown hb6) hb7) hz1', by (repeat (first | with_reducible exact Gw.refl _ | with_reducible assumption | ((with_reducible refine Gw.set ?_ ?_ _); rotate_left; (focus (first | (simp; done) | (simp; omega) | omega))) | with_reducible refine Gw.alloc ?_ _ | with_reducible refine Gw.drew ?_ | with_reducible refine Gw.drewN ?_ _ | (refine Gw.trans ?_ (by with_reducible assumption))))⟩
      · have hf : Hid (prsF s = ([], false)) := by
          unfold Hid
          refine prsF_no fun h => ht ?_
          have := h.2.2.2
          rw [hP.out] at this
          rw [hfin.out]
          exact this
        have e1 := beq_no ht
        have e2 : ¬(cat lineW acc).toList = s.toList := fun e => ht (toList_iff.1 e)
        obtain ⟨t, htt⟩ : ∃ t, Hid (cat lineW acc = t) := ⟨_, rfl⟩
        rw [htt.out] at T6 e1 e2
        have H6 := Lib.hid T6
        clear T6 ht
        go_wp2_with fail
        refine H6.out.mono ?_
        rintro _ w7 ⟨rfl, hb7⟩
        go_wp2_with fail
        go_ret2
        exact ⟨none, 0, by rw [hf.out]; rfl, by rw [hf.out]; exact World.ownsRow_nil _ _ _ _, by (repeat (first | with_reducible exact Gw.refl _ | with_reducible assumption | ((with_reducible refine Gw.set ?_ ?_ _); rotate_left; (focus (first | (simp; done) | (simp; omega) | omega))) | with_reducible refine Gw.alloc ?_ _ | with_reducible refine Gw.drew ?_ | with_reducible refine Gw.drewN ?_ _ | (refine Gw.trans ?_ (by with_reducible assumption))))⟩
end Go.Proofs.YtgbgmmdpldekbaaDoor
