/-
  Draws of the arguments of RowsOf, SectionsText, ParseSections, SectionOf.
-/
import Derived.Test.YtbhkcbfmlniamaaDoorSecF
import Derived.Test.YtbhkcbfmlniamaaDoorSpoilt
import Derived.Test.YtbhkcbfmlniamaaDoorTextC
namespace Go.Proofs.YtbhkcbfmlniamaaDoor
open Go.RowKit

set_option maxHeartbeats 4000000 in
set_option maxRecDepth 20000 in
theorem d_SectionsText (A : Option Addr) (cc : Nat) (bs : List UInt8) (w : World) (hl : bs.length ≤ 9223372036854775807) (hr : Rd w A bs) :
    Calls Tryd.prog 16 #[.slice A bs.length cc] w fun e w' => ∃ (l : List Sec) (D : Option Addr) (c : Nat), e = .returned (.slice D l.length c) ∧ SecB l ∧ l.length ≤ 30 ∧ w'.ownsRow w.heap.size 34 3 (.slice D l.length c) l.length (flat l) ∧ Gw w w' := by
  go_enter Tryd.func16, Tryd.ntmps16
  go_wp2_with fail
  refine (d_AreSections _ _ _ _ hl hr).mono ?_
  rintro _ w1 ⟨l, D, c, rfl, hB, hll, hown, hb⟩
  go_wp2_with fail
  go_ret
  exact ⟨l, D, c, rfl, hB, hll, hown, hb⟩
set_option maxHeartbeats 4000000 in
set_option maxRecDepth 20000 in
theorem d_RowsOf (A : Option Addr) (cc : Nat) (bs : List UInt8) (w : World) (hl : bs.length ≤ 9223372036854775807) (hr : Rd w A bs) :
    Calls Tryd.prog 12 #[.slice A bs.length cc] w fun e w' => ∃ (l : List Sec) (D : Option Addr) (c : Nat) (p : Int), e = .returned (.tuple #[.slice D l.length c, .int .i64 p]) ∧ SecB l ∧ l.length ≤ 30 ∧ w'.ownsRow w.heap.size 34 3 (.slice D l.length c) l.length (flat l) ∧ Gw w w' := by
  have hC0 := CurP.new (c := cc) hr hl (Gw.refl w)
  go_enter Tryd.func12, Tryd.ntmps12
  go_wp2_with fail
  refine (s_sections (w0 := w) hC0 (by omega)).mono ?_
  rintro _ w1 ⟨l, D, c, rfl, hB, hll, hown, hC1, hr1⟩
  have hz1 : w.heap.size + 1 ≤ w1.heap.size := by have := hr1.size; simpa using this
  have hown1 := own_lower hown (show w.heap.size + 1 ≤ _ by simp)
  go_wp2_with fail
  refine (c_among (w0 := w) hC1 (by omega) (by simp [SmV]; try omega) (by first | rfl | simp) (by omega) (by omega) (by first | rfl | simp)).mono ?_
  rintro _ w2 ⟨r, rfl, ⟨hr1', hr2', hrm⟩, hC2, hr2⟩
  clear hrm
  have hown2 := own_grow (hown1.alloc _) hr2 (Nat.lt_succ_self _)
  go_wp2_with fail
  refine (c_among (w0 := w) hC2 (by omega) (by simp [SmV]; try omega) (by first | rfl | simp) (by omega) (by omega) (by first | rfl | simp)).mono ?_
  rintro _ w3 ⟨q, rfl, ⟨hq1, hq2, hqm⟩, hC3, hr3⟩
  clear hqm
  have hown3 := own_grow (hown2.alloc _) hr3 (Nat.lt_succ_self _)
  go_wp2_with fail
  go_ret2
  exact ⟨l, D, c, q, rfl, hB, hll, own_lower hown3 (Nat.le_succ _), hC3.gw⟩
set_option maxHeartbeats 1000000 in
theorem s_seSumT (A : Option Addr) (c n : Nat) (l : List Sec) (w : World) (hn : l.length = n) (hl : n ≤ 30) (hA : Rd w A l) (hP : SecB l) :
    Calls Tryd.prog 58 #[.slice A n c] w fun e w' => ∃ v : Int, e = .returned (.int .i64 v) ∧ (-30000000 ≤ v ∧ v ≤ 30000000) ∧ Gw w w' := by
  have HP := Lib.hid hP
  have Hn := Lib.hid hn
  clear hP hn
  go_enter Tryd.func58, Tryd.ntmps58
  go_wp2_with fail
  go_loopw [3, 8] (fun q i wr => ∃ (k : Nat) (v : Int), i = .int .i64 k ∧ q = .int .i64 v ∧ k ≤ n ∧ -1000000 * (k : Int) ≤ v ∧ v ≤ 1000000 * k ∧ Gw w wr) (fun _ i _ => n - (intOf i).toNat)
  case atStart => exact ⟨0, 0, by go_num, by go_num, Nat.zero_le _, by omega, by omega, by (repeat (first | with_reducible exact Gw.refl _ | with_reducible assumption | ((with_reducible refine Gw.set ?_ ?_ _); rotate_left; (focus (first | (simp; done) | (simp; omega) | omega))) | with_reducible refine Gw.alloc ?_ _ | with_reducible refine Gw.drew ?_ | with_reducible refine Gw.drewN ?_ _ | (refine Gw.trans ?_ (by with_reducible assumption))))⟩
  case round =>
    obtain ⟨k, v, rfl, rfl, hk, hv0, hv1, hgw⟩ := hrel
    by_cases hlt : k < n
    · obtain ⟨x, hx⟩ := get_of_lt (l := l) (k := k) (by rw [Hn.out]; exact hlt)
      have hxp := (HP.out x (mem_of_get hx)).2.1
      obtain ⟨b, off, rfl, hb, c0, c1, c2⟩ := (hA.gw hgw).getS hx
      clear hx
      go_wp2_with fail
      go_roundw
      case rel => exact ⟨k + 1, v + x.2.1, by go_num, by go_num, by omega, by omega, by omega, by (repeat (first | with_reducible exact Gw.refl _ | with_reducible assumption | ((with_reducible refine Gw.set ?_ ?_ _); rotate_left; (focus (first | (simp; done) | (simp; omega) | omega))) | with_reducible refine Gw.alloc ?_ _ | with_reducible refine Gw.drew ?_ | with_reducible refine Gw.drewN ?_ _ | (refine Gw.trans ?_ (by with_reducible assumption))))⟩
      case measure => simp [intOf]; omega
    · go_wp2_with fail
      go_ret
      exact ⟨v, rfl, by omega, by (repeat (first | with_reducible exact Gw.refl _ | with_reducible assumption | ((with_reducible refine Gw.set ?_ ?_ _); rotate_left; (focus (first | (simp; done) | (simp; omega) | omega))) | with_reducible refine Gw.alloc ?_ _ | with_reducible refine Gw.drew ?_ | with_reducible refine Gw.drewN ?_ _ | (refine Gw.trans ?_ (by with_reducible assumption))))⟩
set_option maxHeartbeats 8000000 in
set_option maxRecDepth 20000 in
theorem d_SectionOf (A : Option Addr) (cc : Nat) (bs : List UInt8) (w : World) (hl : bs.length ≤ 9223372036854775807) (hr : Rd w A bs) :
    Calls Tryd.prog 24 #[.slice A bs.length cc] w fun e w' => ∃ (l : List Sec) (D : Option Addr) (c : Nat) (p : Int), e = .returned (.tuple #[.slice D l.length c, .int .i64 p]) ∧ (-1000000000000 ≤ p ∧ p ≤ 1000000000000) ∧ SecB l ∧ l.length ≤ 30 ∧ w'.ownsRow w.heap.size 34 3 (.slice D l.length c) l.length (flat l) ∧ Gw w w' := by
  have hC0 := CurP.new (c := cc) hr hl (Gw.refl w)
  go_enter Tryd.func24, Tryd.ntmps24
  go_wp2_with fail
  refine (s_sections (w0 := w) hC0 (by omega)).mono ?_
  rintro _ w1 ⟨l, D, c, rfl, hB, hll, hown, hC1, hr1⟩
  have hz1 : w.heap.size + 1 ≤ w1.heap.size := by have := hr1.size; simpa using this
  have hown1 := own_lower hown (show w.heap.size + 1 ≤ _ by simp)
  have rdl : Rd w1 D l := own_rd (α := Sec) hown
  clear hown
  go_wp2_with fail
  refine (s_seSumT _ _ _ l _ rfl hll rdl hB).mono ?_
  rintro _ w2 ⟨v, rfl, hv, hb2⟩
  have hown2 := own_gw hown1 hb2
  have hC2 := hC1.to hb2
  go_wp2_with fail
  refine (s_l1Least _ _ _).mono ?_
  rintro _ w3 ⟨rfl, rfl⟩
  go_wp2_with fail
  refine (s_l1Most _ _ _).mono ?_
  rintro _ w3 ⟨rfl, rfl⟩
  obtain ⟨n, hn⟩ : ∃ n : Int, max 1 (min v 100) = n := ⟨_, rfl⟩
  rw [hn]
  have hn1 : 1 ≤ n ∧ n ≤ 100 := by omega
  have wn : IntKind.i64.wrap (n - 1) = n - 1 := IntWalk.i64_in _ (by omega)
  clear hn
  go_wp2_with fail
  refine (c_pick (w0 := w) hC2 (by omega) (by omega)).mono ?_
  rintro _ w3 ⟨a, rfl, ⟨ha1, ha2, -⟩, hC3, hr3⟩
  have hown3 := own_grow hown2 hr3 (Nat.lt_succ_self _)
  go_wp2_with fail
  refine (c_pick (w0 := w) hC3 (by omega) (by omega)).mono ?_
  rintro _ w4 ⟨b, rfl, ⟨hb1, hb2', -⟩, hC4, hr4⟩
  have hown4 := own_grow hown3 hr4 (Nat.lt_succ_self _)
  go_wp2_with fail
  refine (c_among (w0 := w) hC4 (by omega) (by simp [SmV]; omega) (by first | rfl | simp) (by omega) (by omega) (by first | rfl | simp)).mono ?_
  rintro _ w5 ⟨r, rfl, ⟨hr1', hr2', hrm⟩, hC5, hr5⟩
  clear hrm
  have hown5 := own_grow (hown4.alloc _) hr5 (Nat.lt_succ_self _)
  go_wp2_with fail
  refine (c_among (w0 := w) hC5 (by omega) (by simp [SmV]; omega) (by first | rfl | simp) (by omega) (by omega) (by first | rfl | simp)).mono ?_
  rintro _ w6 ⟨q, rfl, ⟨hq1, hq2, hqm⟩, hC6, hr6⟩
  clear hqm
  have hown6 := own_grow (hown5.alloc _) hr6 (Nat.lt_succ_self _)
  go_wp2_with fail
  go_ret2
  exact ⟨l, D, c, q, rfl, ⟨hq1, hq2⟩, hB, hll, own_lower hown6 (Nat.le_succ _), hC6.gw⟩
set_option maxHeartbeats 8000000 in
set_option maxRecDepth 20000 in
theorem d_ParseSections (A : Option Addr) (cc : Nat) (bs : List UInt8) (w : World) (hl : bs.length ≤ 9223372036854775807) (hr : Rd w A bs) :
    Calls Tryd.prog 22 #[.slice A bs.length cc] w fun e w' => ∃ t : ByteArray, e = .returned (.string t) ∧ t.size ≤ 1000 ∧ Gw w w' := by
  have hC0 := CurP.new (c := cc) hr hl (Gw.refl w)
  go_enter Tryd.func22, Tryd.ntmps22
  go_wp2_with fail
  refine (s_sections (w0 := w) hC0 (by omega)).mono ?_
  rintro _ w1 ⟨l, D, c, rfl, hB, hll, hown, hC1, hr1⟩
  have rdl : Rd w1 D l := own_rd (α := Sec) hown
  clear hown
  go_wp2_with fail
  refine (s_seGood _ _ l _ (by omega) hB.size rdl).mono ?_
  rintro _ w2 (⟨hp, rfl, hb2⟩ | ⟨hp, rfl, hb2⟩)
  case inr =>
    clear hp
    have hC2 := hC1.to hb2
    go_wp2_with fail
    refine (c_of (w0 := w) hC2 (by omega) (fun u hu => by
      simp at hu
      rcases hu with rfl | rfl | rfl | rfl | rfl | rfl | rfl
      all_goals exact ⟨_, rfl, by decide⟩) (by first | rfl | simp) (by omega) (by omega) (by first | rfl | simp)).mono ?_
    rintro _ w3 ⟨t, rfl, hts, hC3, hr3⟩
    go_wp2_with fail
    go_ret
    exact ⟨t, rfl, by omega, hC3.gw⟩
  have hC2 := hC1.to hb2
  have hPl := stxF_line hp
  have h10 := hp.2.2.1.2
  have Hp := Lib.hid hPl
  clear hp hPl
  go_wp2_with fail
  refine (s_seText _ _ l _ (by omega) (rdl.gw hb2) Hp.out).mono ?_
  rintro _ w3 ⟨rfl, hb3⟩
  have hC3 := hC2.to hb3
  have hsz : (cat lineC l).size ≤ 280 := by
    have := cat_size (f := lineC) (m := 28) (l := l) (fun x hx => lineC_size (Hp.out x hx)) l.length
    rw [List.take_length] at this
    omega
  generalize cat lineC l = t at *
  clear Hp
  go_wp2_with fail
  refine (s_one w _ w.heap.size _ 3 (by omega) (by omega) hC3).mono ?_
  rintro _ w4 ⟨b, rfl, hC4, hr4⟩
  cases b with
  | false =>
    go_wp2_with fail
    go_ret
    exact ⟨t, rfl, by omega, hC4.gw⟩
  | true =>
    go_wp2_with fail
    refine (s_spoilt (w0 := w) hC4 (by omega) t _ (by omega) (by decide) (by decide)).mono ?_
    rintro _ w5 ⟨t', rfl, hts, hC5, hr5⟩
    go_wp2_with fail
    go_ret
    exact ⟨t', rfl, by omega, hC5.gw⟩
end Go.Proofs.YtbhkcbfmlniamaaDoor
