/-
  The program's ParseWindows.
-/
import Derived.Test.YtgbgmmdpldekbaaDoorParseI
import Derived.Test.YtgbgmmdpldekbaaDoorParseQ
import Derived.Test.YtgbgmmdpldekbaaDoorBeside
namespace Go.Proofs.YtgbgmmdpldekbaaDoor
open Go.RowKit

set_option maxHeartbeats 8000000 in
set_option maxRecDepth 20000 in
theorem i_ParseWindows (s : ByteArray) (w : World) (hs : s.size ≤ 1048576) (hm : MaxP w) :
    Calls Tryd.prog 41 #[.string s] w fun e w' => ∃ A d, e = .returned (.tuple #[.slice A (prsF s).1.length d, .bool (prsF s).2]) ∧
      w'.ownsRow w.heap.size 68 3 (.slice A (prsF s).1.length d) (prsF s).1.length (flat (prsF s).1) ∧ Gw w w' := by
  obtain ⟨i0, hi, hz0, hz1, hz2⟩ := info_parts infoWindow
  have HM := Lib.hid hm
  clear hm
  obtain ⟨ls, ok, hls⟩ : ∃ ls ok, Hid (linesF s = (ls, ok)) := ⟨_, _, rfl⟩
  have T := i_linesOf s w hs HM.out
  rw [hls.out] at T
  have HT := Lib.hid T
  clear T
  have hlsz : ∀ x ∈ ls, x.size ≤ 1048576 := fun x hx => by
    have h := hls.out
    cases ok with
    | true =>
      have hp := lines_yes (s := s) (by rw [h])
      rw [h] at hp
      exact Nat.le_trans (pcs_short (s := s) (by rw [hp]; simp [hx])) hs
    | false =>
      unfold linesF at h
      split at h
      · cases h
      · split at h
        · cases h
        · cases h; simp at hx
  have HZ := Lib.hid hlsz
  clear hlsz
  go_enter Tryd.func41, Tryd.ntmps41
  go_wp2_with fail
  refine HT.out.mono ?_
  rintro _ w1 ⟨A1, d1, rfl, hrd1, hb1⟩
  have HR := Lib.hid hrd1
  clear hrd1
  cases ok with
  | false =>
    have hno := Lib.hid (prog_no (s := s) (fun h => by have := h.1; rw [hls.out] at this; cases this))
    go_wp2_with fail
    go_ret2
    exact ⟨none, 0, by rw [hno.out]; rfl, by rw [hno.out]; exact World.ownsRow_nil _ _ _ _, by (repeat (first | with_reducible exact Gw.refl _ | with_reducible assumption | ((with_reducible refine Gw.set ?_ ?_ _); rotate_left; (focus (first | (simp; done) | (simp; omega) | omega))) | with_reducible refine Gw.alloc ?_ _ | with_reducible refine Gw.drew ?_ | with_reducible refine Gw.drewN ?_ _ | (refine Gw.trans ?_ (by with_reducible assumption))))⟩
  | true =>
    by_cases h20 : ls.length ≤ 20
    case neg =>
      have hno := Lib.hid (prog_no (s := s) (fun h => by have := h.2.1; rw [hls.out] at this; exact h20 this))
      have h20z : (20 : Int) < (ls.length : Int) := by omega
      go_wp2_with fail
      go_ret2
      exact ⟨none, 0, by rw [hno.out]; rfl, by rw [hno.out]; exact World.ownsRow_nil _ _ _ _, by (repeat (first | with_reducible exact Gw.refl _ | with_reducible assumption | ((with_reducible refine Gw.set ?_ ?_ _); rotate_left; (focus (first | (simp; done) | (simp; omega) | omega))) | with_reducible refine Gw.alloc ?_ _ | with_reducible refine Gw.drew ?_ | with_reducible refine Gw.drewN ?_ _ | (refine Gw.trans ?_ (by with_reducible assumption))))⟩
    have h20z : ¬(20 : Int) < (ls.length : Int) := by omega
    have hz1' := hb1.size
    go_wp2_with fail
    go_loopw [6, 8, 9, 10, 26] (fun o _ _ _ q wr => ∃ (k : Nat) (acc : List W3p) (D : Option Addr) (d : Nat), q = .int .i64 k ∧ k ≤ ls.length ∧ o = .slice D acc.length d ∧ Hid (acc = (ls.take k).map winN) ∧ Hid (AllTo OkL ls k) ∧ wr.ownsRow w1.heap.size 68 3 (.slice D acc.length d) acc.length (flat acc) ∧ Gw w1 wr) (fun _ _ _ _ q _ => ls.length - (intOf q).toNat)
    case atStart => exact ⟨0, [], some ⟨w1.heap.size, 0, none⟩, 0, by go_num, Nat.zero_le _, rfl, by unfold Hid; simp, AllTo.zero, World.ownsRow_made w1 #[] 0 (Nat.le_refl _) (by simp [maxLen]) (by simp), by (repeat (first | with_reducible exact Gw.refl _ | with_reducible assumption | ((with_reducible refine Gw.set ?_ ?_ _); rotate_left; (focus (first | (simp; done) | (simp; omega) | omega))) | with_reducible refine Gw.alloc ?_ _ | with_reducible refine Gw.drew ?_ | with_reducible refine Gw.drewN ?_ _ | (refine Gw.trans ?_ (by with_reducible assumption))))⟩
    case round =>
      obtain ⟨k, acc, D, d, rfl, hk, rfl, hacc, hall, hown, hgw⟩ := hrel
      obtain ⟨wo, rfl⟩ : ∃ wo : World, wo = wr := ⟨_, rfl⟩
      have hgw0 : Gw w wo := Gw.trans hb1 hgw
      have hal : acc.length ≤ k := by rw [hacc.out, List.length_map, List.length_take]; omega
      by_cases hlt : k < ls.length
      · obtain ⟨x, hx⟩ := get_of_lt hlt
        obtain ⟨b, off, rfl, hb, c0⟩ := (HR.out.gw hgw).getT hx
        have Hx := Lib.hid hx
        have hxs := HZ.out x (mem_of_get hx)
        have hkz : (k : Int) < (ls.length : Int) := by omega
        clear hx
        have T3 := i_numbersIn x 3 wo hxs (by omega) (HM.out.gw hgw0)
        by_cases hok : OkL x
        case neg =>
          rw [nums_bad hok] at T3
          have H3 := Lib.hid T3
          have hno := Lib.hid (prog_no (s := s) (fun h => hok (by have := h.2.2.1; rw [hls.out] at this; exact this x (mem_of_get Hx.out))))
          clear T3 hok
          go_wp2_with fail
          refine H3.out.mono ?_
          rintro _ w3 ⟨A3, d3, rfl, hown3, hb3⟩
          clear hown3
          go_wp2_with fail
          go_ret2
          exact ⟨none, 0, by rw [hno.out]; rfl, by rw [hno.out]; exact World.ownsRow_nil _ _ _ _, by (repeat (first | with_reducible exact Gw.refl _ | with_reducible assumption | ((with_reducible refine Gw.set ?_ ?_ _); rotate_left; (focus (first | (simp; done) | (simp; omega) | omega))) | with_reducible refine Gw.alloc ?_ _ | with_reducible refine Gw.drew ?_ | with_reducible refine Gw.drewN ?_ _ | (refine Gw.trans ?_ (by with_reducible assumption))))⟩
        rw [nums_ok hok] at T3
        obtain ⟨a0, a1, a2, ha⟩ : ∃ a0 a1 a2, Hid (winN x = (a0, a1, a2)) := ⟨_, _, _, rfl⟩
        rw [ha.out] at T3
        have H3 := Lib.hid T3
        have hal2 := Lib.hid (AllTo.succ hall.out Hx.out hok)
        have hnx : Hid (acc ++ [(a0, a1, a2)] = (ls.take (k + 1)).map winN) := by unfold Hid; rw [List.take_add_one, Hx.out, Option.toList_some, List.map_append, ← hacc.out, List.map_cons, List.map_nil, ha.out]
        clear T3 hok
        go_wp2_with fail
        refine H3.out.mono ?_
        rintro _ w3 ⟨A3, d3, rfl, hown3, hb3⟩
        obtain ⟨g3, hA3, hg31, hg32⟩ := own_addr hown3 (by simp)
        subst hA3
        have hr3 : Rd w3 (some ⟨g3, 0, none⟩) [a0, a1, a2] := own_rd hown3
        have q0 := (own_rd (α := Int) hown3).get1 (k := 0) rfl
        obtain ⟨b0, o0, hbo0, hb0, q0⟩ := q0
        obtain ⟨b1, o1, hbo1, hb1', q1⟩ := (own_rd (α := Int) hown3).get1 (k := 1) rfl
        obtain ⟨b2, o2, hbo2, hb2', q2⟩ := (own_rd (α := Int) hown3).get1 (k := 2) rfl
        simp only [Option.some.injEq, Addr.mk.injEq, and_true] at hbo0 hbo1 hbo2
        obtain ⟨rfl, rfl⟩ := hbo0
        obtain ⟨rfl, rfl⟩ := hbo1
        obtain ⟨rfl, rfl⟩ := hbo2
        simp only [Nat.zero_add] at q0 q1 q2
        have hacc3 := own_gw hown hb3
        have hgw3 : Gw w1 w3 := Gw.trans hgw hb3
        have hgz3 := hgw3.size
        have hks : ∀ u, Gw w3 u → u.cell? ⟨g3, 0, none⟩ = some (.int .i64 a0) ∧ u.cell? ⟨g3, 1, none⟩ = some (.int .i64 a1) ∧ u.cell? ⟨g3, 2, none⟩ = some (.int .i64 a2) := fun u hu => ⟨(hu.cells _ _ hg32).trans q0, (hu.cells _ _ hg32).trans q1, (hu.cells _ _ hg32).trans q2⟩
        have Hks := Lib.hid hks
        clear hks hr3 hown
        go_wp2_with fail
        go_region_law (refine step_cat (α := W3p) rfl (.tmp 37) (.tmp 48) 23 (by rfl) w1.heap.size 68 i0 _ 24 Tryd.underlying23 hi hz0 hz1 hz2 rfl (by omega) acc acc.length rfl D d (by rfl) [(a0, a1, a2)] 1 rfl _ 1 (by rfl) ((rdBox w3 _ (a0, a1, a2)).gw (Gw.refl _).drew) (hacc3.alloc _).drew (by omega) (by omega) (Gw.size (by (repeat (first | with_reducible exact Gw.refl _ | with_reducible assumption | ((with_reducible refine Gw.set ?_ ?_ _); rotate_left; (focus (first | (simp; done) | (simp; omega) | omega))) | with_reducible refine Gw.alloc ?_ _ | with_reducible refine Gw.drew ?_ | with_reducible refine Gw.drewN ?_ _ | (refine Gw.trans ?_ (by with_reducible assumption)))))) ?_; intro A9 c9 w9 hown9 hgg9 hgr9; have hgw9 : Gw w1 w9 := hgg9 w1 (by (repeat (first | with_reducible exact Gw.refl _ | with_reducible assumption | ((with_reducible refine Gw.set ?_ ?_ _); rotate_left; (focus (first | (simp; done) | (simp; omega) | omega))) | with_reducible refine Gw.alloc ?_ _ | with_reducible refine Gw.drew ?_ | with_reducible refine Gw.drewN ?_ _ | (refine Gw.trans ?_ (by with_reducible assumption))))) (Nat.le_refl _))
        all_goals
          obtain ⟨acc9, hacc9⟩ : ∃ r, Hid (r = acc ++ [(a0, a1, a2)]) := ⟨_, rfl⟩
          have hal9 : Hid (acc9.length = acc.length + 1) := by unfold Hid; rw [hacc9.out]; simp
          rw [← hacc9.out, ← hal9.out] at hown9
          rw [← hal9.out]
          go_wp2_with fail
          go_roundw
          case rel => exact ⟨k + 1, acc9, A9, c9, by go_num, by omega, rfl, by unfold Hid; rw [hacc9.out]; exact hnx.out, hal2, hown9, hgw9⟩
          case measure => simp [intOf] <;> omega
      · obtain rfl : k = ls.length := by omega
        have hfin : Hid (acc = ls.map winN) := by unfold Hid; rw [hacc.out, List.take_length]
        have hokl := Lib.hid (AllTo.all hall.out (Nat.le_refl _))
        have hr5 := Lib.hid (own_rd hown)
        go_wp2_with fail
        refine (i_AreWindows _ _ _ _ (by omega) hr5.out).mono ?_
        rintro _ w6 (⟨hgd, rfl, hb6⟩ | ⟨hgd, rfl, hb6⟩)
        · have hf : Hid (prsF s = (acc, true)) := by
            unfold Hid
            rw [hfin.out] at hgd ⊢
            exact prog_yes hls.out h20 hokl.out hgd
          clear hgd
          go_wp2_with fail
          go_ret2
          exact ⟨D, d, by rw [hf.out]; rfl, by rw [hf.out]; exact own_lower (own_gw hown hb6) hz1', by (repeat (first | with_reducible exact Gw.refl _ | with_reducible assumption | ((with_reducible refine Gw.set ?_ ?_ _); rotate_left; (focus (first | (simp; done) | (simp; omega) | omega))) | with_reducible refine Gw.alloc ?_ _ | with_reducible refine Gw.drew ?_ | with_reducible refine Gw.drewN ?_ _ | (refine Gw.trans ?_ (by with_reducible assumption))))⟩
        · have hf : Hid (prsF s = ([], false)) := by
            unfold Hid
            refine prog_no fun h => hgd ?_
            have := h.2.2.2
            rw [hls.out] at this
            rw [hfin.out]
            exact this
          clear hgd
          go_wp2_with fail
          go_ret2
          exact ⟨none, 0, by rw [hf.out]; rfl, by rw [hf.out]; exact World.ownsRow_nil _ _ _ _, by (repeat (first | with_reducible exact Gw.refl _ | with_reducible assumption | ((with_reducible refine Gw.set ?_ ?_ _); rotate_left; (focus (first | (simp; done) | (simp; omega) | omega))) | with_reducible refine Gw.alloc ?_ _ | with_reducible refine Gw.drew ?_ | with_reducible refine Gw.drewN ?_ _ | (refine Gw.trans ?_ (by with_reducible assumption))))⟩
end Go.Proofs.YtgbgmmdpldekbaaDoor
