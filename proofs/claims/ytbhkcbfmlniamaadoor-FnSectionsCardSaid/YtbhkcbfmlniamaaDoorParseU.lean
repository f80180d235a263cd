/-
  The program's ParseSections.
-/
import Derived.Test.YtbhkcbfmlniamaaDoorParseI
import Derived.Test.YtbhkcbfmlniamaaDoorParseT
import Derived.Test.YtbhkcbfmlniamaaDoorParseH
namespace Go.Proofs.YtbhkcbfmlniamaaDoor
open Go.RowKit

theorem i_Cut (s : ByteArray) (w : World) (hs : s.size ≤ 1048576) (hm : MaxP w) :
    Calls Tryd.prog 50 #[.string s, .string ⟨#[32]⟩] w fun e w' => e = .returned (.tuple #[.string (toB (Lib.cut s.data.toList [32]).1), .string (toB (Lib.cut s.data.toList [32]).2.1), .bool (Lib.cut s.data.toList [32]).2.2]) ∧ Gw w w' := by
  obtain ⟨m, hm⟩ := hm
  refine (Any.strings_Cut { Tryd.laysM145 with } s ⟨#[32]⟩ m w (by omega) hm).mono ?_
  rintro e w' ⟨rfl, n, rfl⟩
  exact ⟨rfl, (Gw.refl w).drewN n⟩

set_option maxHeartbeats 8000000 in
set_option maxRecDepth 20000 in
theorem i_ParseSections (s : ByteArray) (w : World) (hs : s.size ≤ 1048576) (hm : MaxP w) :
    Calls Tryd.prog 20 #[.string s] w fun e w' => ∃ A d, e = .returned (.tuple #[.slice A (psecF s).1.length d, .bool (psecF s).2]) ∧
      w'.ownsRow w.heap.size 34 3 (.slice A (psecF s).1.length d) (psecF s).1.length (flat (psecF s).1) ∧ Gw w w' := by
  obtain ⟨i0, hi, hz0, hz1, hz2⟩ := info_parts infoSection
  have HM := Lib.hid hm
  clear hm
  obtain ⟨ls, ok, hls⟩ : ∃ ls ok, Hid (linesF s = (ls, ok)) := ⟨_, _, rfl⟩
  have T := i_linesOf s w hs HM.out
  rw [hls.out] at T
  have HT := Lib.hid T
  clear T
  have hlsz : ∀ x ∈ ls, x.size ≤ 1048576 := fun x hx => by
    have h := hls.out
    cases ok with
    | true =>
      have hp := lines_yes (s := s) (by rw [h])
      rw [h] at hp
      exact Nat.le_trans (pcs_short (s := s) (by rw [hp]; simp [hx])) hs
    | false =>
      unfold linesF at h
      split at h
      · cases h
      · split at h
        · cases h
        · cases h; simp at hx
  have HZ := Lib.hid hlsz
  clear hlsz
  go_enter Tryd.func20, Tryd.ntmps20
  go_wp2_with fail
  refine HT.out.mono ?_
  rintro _ w1 ⟨A1, d1, rfl, hrd1, hb1⟩
  have HR := Lib.hid hrd1
  clear hrd1
  cases ok with
  | false =>
    have hno := Lib.hid (sprog_no (s := s) (fun h => by have := h.1; rw [hls.out] at this; cases this))
    go_wp2_with fail
    go_ret2
    exact ⟨none, 0, by rw [hno.out]; rfl, by rw [hno.out]; exact World.ownsRow_nil _ _ _ _, by (repeat (first | with_reducible exact Gw.refl _ | with_reducible assumption | ((with_reducible refine Gw.set ?_ ?_ _); rotate_left; (focus (first | (simp; done) | (simp; omega) | omega))) | with_reducible refine Gw.alloc ?_ _ | with_reducible refine Gw.drew ?_ | with_reducible refine Gw.drewN ?_ _ | (refine Gw.trans ?_ (by with_reducible assumption))))⟩
  | true =>
    by_cases h20 : ls.length ≤ 10
    case neg =>
      have hno := Lib.hid (sprog_no (s := s) (fun h => by have := h.2.1; rw [hls.out] at this; exact h20 this))
      have h20z : (10 : Int) < (ls.length : Int) := by omega
      go_wp2_with fail
      go_ret2
      exact ⟨none, 0, by rw [hno.out]; rfl, by rw [hno.out]; exact World.ownsRow_nil _ _ _ _, by (repeat (first | with_reducible exact Gw.refl _ | with_reducible assumption | ((with_reducible refine Gw.set ?_ ?_ _); rotate_left; (focus (first | (simp; done) | (simp; omega) | omega))) | with_reducible refine Gw.alloc ?_ _ | with_reducible refine Gw.drew ?_ | with_reducible refine Gw.drewN ?_ _ | (refine Gw.trans ?_ (by with_reducible assumption))))⟩
    have h20z : ¬(10 : Int) < (ls.length : Int) := by omega
    have hz1' := hb1.size
    go_wp2_with fail
    go_loopw [6, 8, 9, 10, 11, 12, 13, 29] (fun o _ _ _ _ _ _ q wr => ∃ (k : Nat) (acc : List Sec) (D : Option Addr) (d : Nat), q = .int .i64 k ∧ k ≤ ls.length ∧ o = .slice D acc.length d ∧ Hid (acc = (ls.take k).map secN) ∧ Hid (AllTo OkS ls k) ∧ wr.ownsRow w1.heap.size 34 3 (.slice D acc.length d) acc.length (flat acc) ∧ Gw w1 wr) (fun _ _ _ _ _ _ _ q _ => ls.length - (intOf q).toNat)
    case atStart => exact ⟨0, [], some ⟨w1.heap.size, 0, none⟩, 0, by go_num, Nat.zero_le _, rfl, by unfold Hid; simp, AllTo.zero, World.ownsRow_made w1 #[] 0 (Nat.le_refl _) (by simp [maxLen]) (by simp), by (repeat (first | with_reducible exact Gw.refl _ | with_reducible assumption | ((with_reducible refine Gw.set ?_ ?_ _); rotate_left; (focus (first | (simp; done) | (simp; omega) | omega))) | with_reducible refine Gw.alloc ?_ _ | with_reducible refine Gw.drew ?_ | with_reducible refine Gw.drewN ?_ _ | (refine Gw.trans ?_ (by with_reducible assumption))))⟩
    case round =>
      obtain ⟨k, acc, D, d, rfl, hk, rfl, hacc, hall, hown, hgw⟩ := hrel
      obtain ⟨wo, rfl⟩ : ∃ wo : World, wo = wr := ⟨_, rfl⟩
      have hgw0 : Gw w wo := Gw.trans hb1 hgw
      have hal : acc.length ≤ k := by rw [hacc.out, List.length_map, List.length_take]; omega
      by_cases hlt : k < ls.length
      · obtain ⟨x, hx⟩ := get_of_lt hlt
        obtain ⟨b, off, rfl, hb, c0⟩ := (HR.out.gw hgw).getT hx
        have Hx := Lib.hid hx
        have hxs := HZ.out x (mem_of_get hx)
        have hkz : (k : Int) < (ls.length : Int) := by omega
        clear hx
        obtain ⟨nm, rest, fd, hcut⟩ : ∃ nm rest fd, Hid (toB (Lib.cut x.data.toList [32]).1 = nm ∧ toB (Lib.cut x.data.toList [32]).2.1 = rest ∧ (Lib.cut x.data.toList [32]).2.2 = fd) := ⟨_, _, _, rfl, rfl, rfl⟩
        have T2 := i_Cut x wo hxs (HM.out.gw hgw0)
        rw [hcut.out.1, hcut.out.2.1, hcut.out.2.2] at T2
        have H2 := Lib.hid T2
        have hrs : rest.size ≤ 1048576 := by
          rw [← hcut.out.2.1, toB_size]
          have := cut_len 32 x.data.toList
          have h2 := size_data x
          omega
        clear T2
        by_cases hok : OkS x
        case neg =>
          have hno := Lib.hid (sprog_no (s := s) (fun h => hok (by have := h.2.2.1; rw [hls.out] at this; exact this x (mem_of_get Hx.out))))
          have hbad := line_bad hok
          rw [hcut.out.2.2, hcut.out.2.1] at hbad
          have Hbad := Lib.hid hbad
          clear hbad hok
          go_wp2_with fail
          refine H2.out.mono ?_
          rintro _ w2 ⟨rfl, hb2⟩
          have hgw2 : Gw w w2 := Gw.trans hgw0 hb2
          obtain ⟨nums, gd, hng⟩ : ∃ nums gd, Hid (numsF 2 rest = (nums, gd)) := ⟨_, _, rfl⟩
          have T3 := i_numbersIn rest 2 w2 hrs (by omega) (HM.out.gw hgw2)
          rw [hng.out] at T3
          have H3 := Lib.hid T3
          have hfg : fd = false ∨ gd = false := by
            rcases Hbad.out with e | e
            · exact .inl e
            · rw [hng.out] at e
              exact .inr (Prod.mk.inj e).2
          clear T3
          go_wp2_with fail
          refine H3.out.mono ?_
          rintro _ w3 ⟨A3, d3, rfl, hown3, hb3⟩
          clear hown3
          cases fd with
          | false =>
            clear hfg
            go_wp2_with fail
            go_ret2
            exact ⟨none, 0, by rw [hno.out]; rfl, by rw [hno.out]; exact World.ownsRow_nil _ _ _ _, by (repeat (first | with_reducible exact Gw.refl _ | with_reducible assumption | ((with_reducible refine Gw.set ?_ ?_ _); rotate_left; (focus (first | (simp; done) | (simp; omega) | omega))) | with_reducible refine Gw.alloc ?_ _ | with_reducible refine Gw.drew ?_ | with_reducible refine Gw.drewN ?_ _ | (refine Gw.trans ?_ (by with_reducible assumption))))⟩
          | true =>
            obtain rfl : gd = false := by simpa using hfg
            clear hfg
            go_wp2_with fail
            go_ret2
            exact ⟨none, 0, by rw [hno.out]; rfl, by rw [hno.out]; exact World.ownsRow_nil _ _ _ _, by (repeat (first | with_reducible exact Gw.refl _ | with_reducible assumption | ((with_reducible refine Gw.set ?_ ?_ _); rotate_left; (focus (first | (simp; done) | (simp; omega) | omega))) | with_reducible refine Gw.alloc ?_ _ | with_reducible refine Gw.drew ?_ | with_reducible refine Gw.drewN ?_ _ | (refine Gw.trans ?_ (by with_reducible assumption))))⟩
        have hl := line_ok hok
        rw [hcut.out.1, hcut.out.2.1, hcut.out.2.2] at hl
        obtain ⟨rfl, hnm, hnums⟩ := hl
        obtain ⟨a1, a2, ha⟩ : ∃ a1 a2, Hid (secN x = (nm, a1, a2)) := ⟨_, _, by unfold Hid; rw [hnm]⟩
        rw [ha.out] at hnums
        dsimp only at hnums
        have Hnums := Lib.hid hnums
        have hal2 := Lib.hid (AllTo.succ hall.out Hx.out hok)
        have hnx : Hid (acc ++ [(nm, a1, a2)] = (ls.take (k + 1)).map secN) := by unfold Hid; rw [List.take_add_one, Hx.out, Option.toList_some, List.map_append, ← hacc.out, List.map_cons, List.map_nil, ha.out]
        clear hnums hnm hok
        go_wp2_with fail
        refine H2.out.mono ?_
        rintro _ w2 ⟨rfl, hb2⟩
        have hgw2 : Gw w w2 := Gw.trans hgw0 hb2
        have T3 := i_numbersIn rest 2 w2 hrs (by omega) (HM.out.gw hgw2)
        rw [Hnums.out] at T3
        have H3 := Lib.hid T3
        clear T3
        go_wp2_with fail
        refine H3.out.mono ?_
        rintro _ w3 ⟨A3, d3, rfl, hown3, hb3⟩
        obtain ⟨g3, hA3, hg31, hg32⟩ := own_addr hown3 (by simp)
        subst hA3
        obtain ⟨b1, o1, hbo1, hb1', q1⟩ := (own_rd (α := Int) hown3).get1 (k := 0) rfl
        obtain ⟨b2, o2, hbo2, hb2', q2⟩ := (own_rd (α := Int) hown3).get1 (k := 1) rfl
        simp only [Option.some.injEq, Addr.mk.injEq, and_true] at hbo1 hbo2
        obtain ⟨rfl, rfl⟩ := hbo1
        obtain ⟨rfl, rfl⟩ := hbo2
        simp only [Nat.zero_add] at q1 q2
        have hacc3 := own_gw (own_gw hown hb2) hb3
        have hgw3 : Gw w1 w3 := Gw.trans (Gw.trans hgw hb2) hb3
        have hgz3 := hgw3.size
        clear hown
        go_wp2_with fail
        go_region_law (refine step_cat (α := Sec) rfl (.tmp 50) (.tmp 59) 24 (by rfl) w1.heap.size 34 i0 _ 32 Tryd.underlying24 hi hz0 hz1 hz2 rfl (by omega) acc acc.length rfl D d (by rfl) [(nm, a1, a2)] 1 rfl _ 1 (by rfl) ((rdBox w3 _ (nm, a1, a2)).gw (Gw.refl _).drew) (hacc3.alloc _).drew (by omega) (by omega) (Gw.size (by (repeat (first | with_reducible exact Gw.refl _ | with_reducible assumption | ((with_reducible refine Gw.set ?_ ?_ _); rotate_left; (focus (first | (simp; done) | (simp; omega) | omega))) | with_reducible refine Gw.alloc ?_ _ | with_reducible refine Gw.drew ?_ | with_reducible refine Gw.drewN ?_ _ | (refine Gw.trans ?_ (by with_reducible assumption)))))) ?_; intro A9 c9 w9 hown9 hgg9 hgr9; have hgw9 : Gw w1 w9 := hgg9 w1 (by (repeat (first | with_reducible exact Gw.refl _ | with_reducible assumption | ((with_reducible refine Gw.set ?_ ?_ _); rotate_left; (focus (first | (simp; done) | (simp; omega) | omega))) | with_reducible refine Gw.alloc ?_ _ | with_reducible refine Gw.drew ?_ | with_reducible refine Gw.drewN ?_ _ | (refine Gw.trans ?_ (by with_reducible assumption))))) (Nat.le_refl _))
        all_goals
          obtain ⟨acc9, hacc9⟩ : ∃ r, Hid (r = acc ++ [(nm, a1, a2)]) := ⟨_, rfl⟩
          have hal9 : Hid (acc9.length = acc.length + 1) := by unfold Hid; rw [hacc9.out]; simp
          rw [← hacc9.out, ← hal9.out] at hown9
          rw [← hal9.out]
          go_wp2_with fail
          go_roundw
          case rel => exact ⟨k + 1, acc9, A9, c9, by go_num, by omega, rfl, by unfold Hid; rw [hacc9.out]; exact hnx.out, hal2, hown9, hgw9⟩
          case measure => simp [intOf] <;> omega
      · obtain rfl : k = ls.length := by omega
        have hfin : Hid (acc = ls.map secN) := by unfold Hid; rw [hacc.out, List.take_length]
        have hokl := Lib.hid (AllTo.all hall.out (Nat.le_refl _))
        have hr5 := Lib.hid (own_rd hown)
        have hcap := (own_cap hown).1
        have hnz : Hid (∀ x ∈ acc, x.1.size ≤ 9223372036854775807) := fun y hy => by
          rw [hfin.out] at hy
          obtain ⟨x, hx, rfl⟩ := List.mem_map.1 hy
          have h1 := word_short (hokl.out x hx).1 0 (by omega)
          have h2 := HZ.out x hx
          unfold secN
          dsimp only
          omega
        go_wp2_with fail
        refine (i_AreSections _ _ _ _ (by omega) hnz.out hr5.out hcap).mono ?_
        rintro _ w6 (⟨hgd, rfl, hb6⟩ | ⟨hgd, rfl, hb6⟩)
        · have hf : Hid (psecF s = (acc, true)) := by
            unfold Hid
            rw [hfin.out] at hgd ⊢
            exact sprog_yes hls.out h20 hokl.out hgd
          clear hgd
          go_wp2_with fail
          go_ret2
          exact ⟨D, d, by rw [hf.out]; rfl, by rw [hf.out]; exact own_lower (own_gw hown hb6) hz1', by (repeat (first | with_reducible exact Gw.refl _ | with_reducible assumption | ((with_reducible refine Gw.set ?_ ?_ _); rotate_left; (focus (first | (simp; done) | (simp; omega) | omega))) | with_reducible refine Gw.alloc ?_ _ | with_reducible refine Gw.drew ?_ | with_reducible refine Gw.drewN ?_ _ | (refine Gw.trans ?_ (by with_reducible assumption))))⟩
        · have hf : Hid (psecF s = ([], false)) := by
            unfold Hid
            refine sprog_no fun h => hgd ?_
            have := h.2.2.2
            rw [hls.out] at this
            rw [hfin.out]
            exact this
          clear hgd
          go_wp2_with fail
          go_ret2
          exact ⟨none, 0, by rw [hf.out]; rfl, by rw [hf.out]; exact World.ownsRow_nil _ _ _ _, by (repeat (first | with_reducible exact Gw.refl _ | with_reducible assumption | ((with_reducible refine Gw.set ?_ ?_ _); rotate_left; (focus (first | (simp; done) | (simp; omega) | omega))) | with_reducible refine Gw.alloc ?_ _ | with_reducible refine Gw.drew ?_ | with_reducible refine Gw.drewN ?_ _ | (refine Gw.trans ?_ (by with_reducible assumption))))⟩
end Go.Proofs.YtbhkcbfmlniamaaDoor
