/-
  Changed spots (the reference's), and the laws' tests of equal lists.
-/
import Derived.Test.YtoofpajeogllhaaBetI
import Derived.Test.YtoofpajeogllhaaBetS
import Derived.Test.YtoofpajeogllhaaTail
import Derived.BigRegion
namespace Go.Proofs.Ytoofpajeogllhaa
open Go.ChangeShapes Go.WideShapes Go.ChangeAt Go.RowKit
set_option linter.unusedVariables false

set_option maxHeartbeats 4000000 in
set_option maxRecDepth 100000 in
theorem s_ChangedSpots (A : Option Addr) (cA : Nat) (a : List Sp) (B : Option Addr) (cB : Nat) (b : List Sp) (w : World) (hla : a.length ≤ 1048576) (hA : Rd w A a) (hca : a.length ≤ cA) (hlb : b.length ≤ 1048576) (hB : Rd w B b) (hcb : b.length ≤ cB) :
    Calls Try.prog 20 #[.slice A a.length cA, .slice B b.length cB] w fun e w' => ∃ A c, e = .returned (.tuple #[.slice A (chgF a b).1.length c, .bool (chgF a b).2]) ∧
      w'.ownsRow w.heap.size 3 1 (.slice A (chgF a b).1.length c) (chgF a b).1.length (flat (nI (chgF a b).1)) ∧ Gw w w' := by
  obtain ⟨i0, hi, iz0, iz1, iz2⟩ := info_parts infoInt
  have HB := Lib.hid hB
  have HA := Lib.hid hA
  go_enter Try.func20, Try.ntmps20
  go_wp2_with fail
  refine (s_chPair _ _ _ _ _ _ _ hla hA hca hlb hB hcb).mono ?_
  rintro _ w2 (⟨hp, rfl, hG2⟩ | ⟨hp, rfl, hG2⟩)
  case inr =>
    have hno := Lib.hid (chgF_bad (a := a) (b := b) hp)
    clear hp
    go_wp2_with fail
    go_ret2
    exact ⟨none, 0, ret_nb (A := none) (c := 0) hno.out rfl, by rw [hno.out]; exact World.ownsRow_nil _ _ _ _, by (repeat (first | with_reducible exact Gw.refl _ | with_reducible assumption | ((with_reducible refine Gw.set ?_ ?_ _); rotate_left; (focus (first | (simp; done) | (simp; omega) | omega))) | with_reducible refine Gw.alloc ?_ _ | with_reducible refine Gw.drew ?_ | with_reducible refine Gw.drewN ?_ _ | (refine Gw.trans ?_ (by with_reducible assumption))))⟩
  have hv := Lib.hid (chgF_good (a := a) (b := b) hp)
  have hab := hp.2
  clear hp hA hB
  obtain ⟨L, hL⟩ : ∃ L, Hid (a.length = L) := ⟨_, rfl⟩
  have hbl : Hid (b.length = L) := by unfold Hid; rw [← hab]; exact hL.out
  clear hab
  rw [hL.out, hbl.out]
  rw [hL.out] at hla
  go_wp2_with fail
  go_loopw [6, 15] (fun o q wr => ∃ (k : Nat) (acc : List Int) (D : Option Addr) (d : Nat), q = .int .i64 k ∧ k ≤ L ∧ o = .slice D acc.length d ∧ acc.length ≤ k ∧ wr.ownsRow w.heap.size 3 1 (.slice D acc.length d) acc.length (flat acc) ∧ Hid (acc = nI (diffTo a b k)) ∧ Gw w wr) (fun _ q _ => L - (intOf q).toNat)
  case atStart => exact ⟨0, [], none, 0, by go_num, Nat.zero_le _, rfl, by simp, World.ownsRow_nil _ _ _ _, rfl, by (repeat (first | with_reducible exact Gw.refl _ | with_reducible assumption | ((with_reducible refine Gw.set ?_ ?_ _); rotate_left; (focus (first | (simp; done) | (simp; omega) | omega))) | with_reducible refine Gw.alloc ?_ _ | with_reducible refine Gw.drew ?_ | with_reducible refine Gw.drewN ?_ _ | (refine Gw.trans ?_ (by with_reducible assumption))))⟩
  case round =>
    obtain ⟨wo, rfl⟩ : ∃ wo : World, wo = wr := ⟨_, rfl⟩
    obtain ⟨k, acc, D, d, rfl, hk, rfl, ha1, hown, hacc, hgw⟩ := hrel
    by_cases hkl : k < L
    · obtain ⟨x, hx⟩ := get_of_lt (l := a) (k := k) (by rw [hL.out]; exact hkl)
      obtain ⟨y, hy⟩ := get_of_lt (l := b) (k := k) (by rw [hbl.out]; exact hkl)
      obtain ⟨b1, off1, rfl, hbb1, c0, c1⟩ := (HA.out.gw hgw).get2 hx
      obtain ⟨b2, off2, rfl, hbb2, d0, d1⟩ := (HB.out.gw hgw).get2 hy
      obtain ⟨x1, x2⟩ := x
      obtain ⟨y1, y2⟩ := y
      dsimp only at c0 c1 d0 d1
      have hgz := hgw.size
      have hbw1 : b1 < wo.heap.size + 1 := by omega
      have hbw2 : b2 < wo.heap.size + 1 := by omega
      by_cases hxy : (x1, x2) = (y1, y2)
      · have hs : a[k]? = b[k]? := by rw [hx, hy, hxy]
        have hn : Hid (acc = nI (diffTo a b (k + 1))) := by unfold Hid; rw [diffTo_succ_no hs]; exact hacc.out
        have e1 : (x1 == y1) = true := by simp at hxy; simp [hxy.1]
        have e2 : (x2 == y2) = true := by simp at hxy; simp [hxy.2]
        clear hs hx hy hxy
        go_wp2_with ((with_reducible refine wp_region_gw (by kernel_rfl) (by kernel_rfl) ?_); have hcq := @GwOf.cell; (repeat (go_big_quiet_step (fail))); refine wpQuiet_nil ?_; clear hcq; rintro w' ⟨⟨w', hb⟩, rfl⟩; (try dsimp only); have hc := hb.cells; have hf := hb.frozens; have hz := hb.size; (try simp at hz); (try have hz0 : w.heap.size < w'.heap.size := (by omega)); (try have hz1 : w.heap.size + 1 < w'.heap.size := (by omega)); (try have hz2 : w.heap.size + 2 < w'.heap.size := (by omega)); (try have hz3 : w.heap.size + 3 < w'.heap.size := (by omega)); (try have hz4 : w.heap.size + 4 < w'.heap.size := (by omega)); (try have hz5 : w.heap.size + 5 < w'.heap.size := (by omega)))
        go_roundw
        case rel => exact ⟨k + 1, acc, D, d, by go_num, by omega, rfl, by omega, own_gw hown (by (repeat (first | with_reducible exact Gw.refl _ | with_reducible assumption | ((with_reducible refine Gw.set ?_ ?_ _); rotate_left; (focus (first | (simp; done) | (simp; omega) | omega))) | with_reducible refine Gw.alloc ?_ _ | with_reducible refine Gw.drew ?_ | with_reducible refine Gw.drewN ?_ _ | (refine Gw.trans ?_ (by with_reducible assumption))))), hn, by (repeat (first | with_reducible exact Gw.refl _ | with_reducible assumption | ((with_reducible refine Gw.set ?_ ?_ _); rotate_left; (focus (first | (simp; done) | (simp; omega) | omega))) | with_reducible refine Gw.alloc ?_ _ | with_reducible refine Gw.drew ?_ | with_reducible refine Gw.drewN ?_ _ | (refine Gw.trans ?_ (by with_reducible assumption))))⟩
        case measure => simp [intOf]; omega
      · have hs : a[k]? ≠ b[k]? := by rw [hx, hy]; simpa using hxy
        have hn : Hid (acc ++ [(k : Int)] = nI (diffTo a b (k + 1))) := by unfold Hid; rw [diffTo_succ_yes hs, hacc.out]; simp [nI]
        clear hs hx hy
        by_cases h4 : x1 = y1
        all_goals
          first
            | (have e1 : (x1 == y1) = true := by simp [h4]
               have h5 : ¬(x2 = y2) := fun h => hxy (by rw [h4, h])
               have e2 : (x2 == y2) = false := by simp [h5]
               clear h5)
            | (have e1 : (x1 == y1) = false := by simp [h4])
          clear hxy h4
          go_wp2_with (first | ((with_reducible refine wp_region_gw (by kernel_rfl) (by kernel_rfl) ?_); have hcq := @GwOf.cell; (repeat (go_big_quiet_step (fail))); refine wpQuiet_nil ?_; clear hcq; rintro w' ⟨⟨w', hb⟩, rfl⟩; (try dsimp only); have hc := hb.cells; have hf := hb.frozens; have hz := hb.size; (try simp at hz); (try have hz0 : w.heap.size < w'.heap.size := (by omega)); (try have hz1 : w.heap.size + 1 < w'.heap.size := (by omega)); (try have hz2 : w.heap.size + 2 < w'.heap.size := (by omega)); (try have hz3 : w.heap.size + 3 < w'.heap.size := (by omega)); (try have hz4 : w.heap.size + 4 < w'.heap.size := (by omega)); (try have hz5 : w.heap.size + 5 < w'.heap.size := (by omega))) | (at_builtin; go_loud (have hgw3 : Gw wo w' := (by (repeat (first | with_reducible exact Gw.refl _ | with_reducible assumption | ((with_reducible refine Gw.set ?_ ?_ _); rotate_left; (focus (first | (simp; done) | (simp; omega) | omega))) | with_reducible refine Gw.alloc ?_ _ | with_reducible refine Gw.drew ?_ | with_reducible refine Gw.drewN ?_ _ | (refine Gw.trans ?_ (by with_reducible assumption)))))); have hown2 := own_gw hown hgw3; have hgw2 := Gw.trans hgw hgw3; have hgz2 := hgw2.size; go_loud (refine wpList_push (α := Int) rfl (.tmp 26) (.tmp 28) 46 rfl w.heap.size 3 i0 _ 8 Try.underlying46 hi iz0 iz1 iz2 rfl (by omega) acc D d rfl w' (k : Int) rfl _ rfl rfl hown2 (by omega) (by omega) ?_); intro acc' A' c'' w9 hacc' hl1 hl2 hown' _ hgg))
          go_roundw
          case rel => exact ⟨k + 1, acc', A', c'', by go_num, by omega, rfl, by omega, hown', by unfold Hid; rw [hacc'.out]; exact hn.out, hgg w (by (repeat (first | with_reducible exact Gw.refl _ | with_reducible assumption | ((with_reducible refine Gw.set ?_ ?_ _); rotate_left; (focus (first | (simp; done) | (simp; omega) | omega))) | with_reducible refine Gw.alloc ?_ _ | with_reducible refine Gw.drew ?_ | with_reducible refine Gw.drewN ?_ _ | (refine Gw.trans ?_ (by with_reducible assumption))))) (Nat.le_refl _)⟩
          case measure => simp [intOf]; omega
    · have hkL : Hid (k = L) := by unfold Hid; omega
      have hal : Hid (acc = nI (diffs a b)) := by rw [hacc.out, hkL.out, ← hL.out]; exact rfl
      have hll : Hid ((diffs a b).length = acc.length) := by unfold Hid; rw [hal.out]; simp [nI]
      go_wp2_with fail
      go_ret2
      exact ⟨D, d, ret_nb hv.out hll.out, by rw [hv.out]; dsimp only; rw [hll.out, ← hal.out]; exact hown, hgw⟩

set_option maxHeartbeats 4000000 in
set_option maxRecDepth 20000 in
theorem l_pSameSpots (A B : Option Addr) (c d : Nat) (l : List (Int × Int)) (w : World) (hl : l.length ≤ 1048576) (hA : Rd w A l) (hB : Rd w B l) :
    Calls Try.prog 8 #[.slice A l.length c, .slice B l.length d] w fun e w' => e = .returned (.bool true) ∧ Gw w w' := by
  go_enter Try.func8, Try.ntmps8
  go_wp2
  go_loopw [5, 13] (fun _ i wr => ∃ k : Nat, i = .int .i64 k ∧ k ≤ l.length ∧ Gw w wr) (fun _ i _ => l.length - (intOf i).toNat)
  case atStart => exact ⟨0, by go_num, Nat.zero_le _, by (repeat (first | with_reducible exact Gw.refl _ | with_reducible assumption | ((with_reducible refine Gw.set ?_ ?_ _); rotate_left; (focus (first | (simp; done) | (simp; omega) | omega))) | with_reducible refine Gw.alloc ?_ _ | with_reducible refine Gw.drew ?_ | with_reducible refine Gw.drewN ?_ _ | (refine Gw.trans ?_ (by with_reducible assumption))))⟩
  case round =>
    obtain ⟨k, rfl, hk, hgw⟩ := hrel
    by_cases hlt : k < l.length
    · obtain ⟨x, hx⟩ := get_of_lt hlt
      obtain ⟨b, off, rfl, hb, c0, c1⟩ := (hA.gw hgw).get2 hx
      obtain ⟨b', off', rfl, hb', d0, d1⟩ := (hB.gw hgw).get2 hx
      have Hx : Hid (l[k]? = some x) := hx; clear hx
      have hkz : (0 : Int) ≤ (k : Int) := by omega
      have hkl : (k : Int) < (l.length : Int) := by omega
      go_wp2_with (first | go_region)
      all_goals
        go_roundw
        case rel => exact ⟨k + 1, by go_num, by omega, by (repeat (first | with_reducible exact Gw.refl _ | with_reducible assumption | ((with_reducible refine Gw.set ?_ ?_ _); rotate_left; (focus (first | (simp; done) | (simp; omega) | omega))) | with_reducible refine Gw.alloc ?_ _ | with_reducible refine Gw.drew ?_ | with_reducible refine Gw.drewN ?_ _ | (refine Gw.trans ?_ (by with_reducible assumption))))⟩
        case measure => simp [intOf]; omega
    · go_wp2
      go_ret
      exact ⟨rfl, by (repeat (first | with_reducible exact Gw.refl _ | with_reducible assumption | ((with_reducible refine Gw.set ?_ ?_ _); rotate_left; (focus (first | (simp; done) | (simp; omega) | omega))) | with_reducible refine Gw.alloc ?_ _ | with_reducible refine Gw.drew ?_ | with_reducible refine Gw.drewN ?_ _ | (refine Gw.trans ?_ (by with_reducible assumption))))⟩

set_option maxHeartbeats 4000000 in
set_option maxRecDepth 20000 in
theorem l_pSameEdits (A B : Option Addr) (c d : Nat) (l : List (Int × Int × Int × Int × Int × Int)) (w : World) (hl : l.length ≤ 1048576) (hA : Rd w A l) (hB : Rd w B l) :
    Calls Try.prog 18 #[.slice A l.length c, .slice B l.length d] w fun e w' => e = .returned (.bool true) ∧ Gw w w' := by
  go_enter Try.func18, Try.ntmps18
  go_wp2
  go_loopw [5, 13] (fun _ i wr => ∃ k : Nat, i = .int .i64 k ∧ k ≤ l.length ∧ Gw w wr) (fun _ i _ => l.length - (intOf i).toNat)
  case atStart => exact ⟨0, by go_num, Nat.zero_le _, by (repeat (first | with_reducible exact Gw.refl _ | with_reducible assumption | ((with_reducible refine Gw.set ?_ ?_ _); rotate_left; (focus (first | (simp; done) | (simp; omega) | omega))) | with_reducible refine Gw.alloc ?_ _ | with_reducible refine Gw.drew ?_ | with_reducible refine Gw.drewN ?_ _ | (refine Gw.trans ?_ (by with_reducible assumption))))⟩
  case round =>
    obtain ⟨k, rfl, hk, hgw⟩ := hrel
    by_cases hlt : k < l.length
    · obtain ⟨x, hx⟩ := get_of_lt hlt
      obtain ⟨b, off, rfl, hb, c0, c1, c2, c3, c4, c5⟩ := (hA.gw hgw).get6 hx
      obtain ⟨b', off', rfl, hb', d0, d1, d2, d3, d4, d5⟩ := (hB.gw hgw).get6 hx
      have Hx : Hid (l[k]? = some x) := hx; clear hx
      have hkz : (0 : Int) ≤ (k : Int) := by omega
      have hkl : (k : Int) < (l.length : Int) := by omega
      go_wp2_with (first | go_region)
      all_goals
        go_roundw
        case rel => exact ⟨k + 1, by go_num, by omega, by (repeat (first | with_reducible exact Gw.refl _ | with_reducible assumption | ((with_reducible refine Gw.set ?_ ?_ _); rotate_left; (focus (first | (simp; done) | (simp; omega) | omega))) | with_reducible refine Gw.alloc ?_ _ | with_reducible refine Gw.drew ?_ | with_reducible refine Gw.drewN ?_ _ | (refine Gw.trans ?_ (by with_reducible assumption))))⟩
        case measure => simp [intOf]; omega
    · go_wp2
      go_ret
      exact ⟨rfl, by (repeat (first | with_reducible exact Gw.refl _ | with_reducible assumption | ((with_reducible refine Gw.set ?_ ?_ _); rotate_left; (focus (first | (simp; done) | (simp; omega) | omega))) | with_reducible refine Gw.alloc ?_ _ | with_reducible refine Gw.drew ?_ | with_reducible refine Gw.drewN ?_ _ | (refine Gw.trans ?_ (by with_reducible assumption))))⟩

set_option maxHeartbeats 2000000 in
theorem l_sameInts (A B : Option Addr) (c d : Nat) (l : List Int) (w : World) (hl : l.length ≤ 1048576) (hA : Rd w A l) (hB : Rd w B l) :
    Calls Try.prog 22 #[.slice A l.length c, .slice B l.length d] w fun e w' => e = .returned (.bool true) ∧ Gw w w' := by
  go_enter Try.func22, Try.ntmps22
  go_wp2
  go_loopw [5, 13] (fun _ i wr => ∃ k : Nat, i = .int .i64 k ∧ k ≤ l.length ∧ Gw w wr) (fun _ i _ => l.length - (intOf i).toNat)
  case atStart => exact ⟨0, by go_num, Nat.zero_le _, by (repeat (first | with_reducible exact Gw.refl _ | with_reducible assumption | ((with_reducible refine Gw.set ?_ ?_ _); rotate_left; (focus (first | (simp; done) | (simp; omega) | omega))) | with_reducible refine Gw.alloc ?_ _ | with_reducible refine Gw.drew ?_ | with_reducible refine Gw.drewN ?_ _ | (refine Gw.trans ?_ (by with_reducible assumption))))⟩
  case round =>
    obtain ⟨k, rfl, hk, hgw⟩ := hrel
    by_cases hlt : k < l.length
    · obtain ⟨x, hx⟩ := get_of_lt hlt
      obtain ⟨b, off, rfl, hb, c0⟩ := (hA.gw hgw).get1 hx
      obtain ⟨b', off', rfl, hb', d0⟩ := (hB.gw hgw).get1 hx
      have Hx : Hid (l[k]? = some x) := hx; clear hx
      have hkz : (0 : Int) ≤ (k : Int) := by omega
      have hkl : (k : Int) < (l.length : Int) := by omega
      go_wp2_with (first | go_region)
      all_goals
        go_roundw
        case rel => exact ⟨k + 1, by go_num, by omega, by (repeat (first | with_reducible exact Gw.refl _ | with_reducible assumption | ((with_reducible refine Gw.set ?_ ?_ _); rotate_left; (focus (first | (simp; done) | (simp; omega) | omega))) | with_reducible refine Gw.alloc ?_ _ | with_reducible refine Gw.drew ?_ | with_reducible refine Gw.drewN ?_ _ | (refine Gw.trans ?_ (by with_reducible assumption))))⟩
        case measure => simp [intOf]; omega
    · go_wp2
      go_ret
      exact ⟨rfl, by (repeat (first | with_reducible exact Gw.refl _ | with_reducible assumption | ((with_reducible refine Gw.set ?_ ?_ _); rotate_left; (focus (first | (simp; done) | (simp; omega) | omega))) | with_reducible refine Gw.alloc ?_ _ | with_reducible refine Gw.drew ?_ | with_reducible refine Gw.drewN ?_ _ | (refine Gw.trans ?_ (by with_reducible assumption))))⟩

set_option maxHeartbeats 2000000 in
theorem l_big (A B : Option Addr) (c d n m : Nat) (w : World) (hn : n ≤ 9223372036854775807) (hm : m ≤ 9223372036854775807) :
    Calls Try.prog 4 #[.slice A n c, .slice B m d] w (Tells (¬(n ≤ 1048576 ∧ m ≤ 1048576)  ∨ 1048576 - n < m) w) := by
  by_cases h1 : n ≤ 1048576
  · have hw : IntKind.i64.wrap (1048576 - (n : Int)) = 1048576 - (n : Int) := IntWalk.i64_in _ (by omega)
    have h1z : ¬(1048576 : Int) < (n : Int) := by omega
    by_cases h2 : m ≤ 1048576 - n
    · have h2z : ¬1048576 - (n : Int) < (m : Int) := by omega
      go_enter Try.func4, Try.ntmps4
      go_wp2_with fail
      all_goals
        go_ret
        exact .inr ⟨by omega, by first | rfl | (simp; omega), by (repeat (first | with_reducible exact Gw.refl _ | with_reducible assumption | ((with_reducible refine Gw.set ?_ ?_ _); rotate_left; (focus (first | (simp; done) | (simp; omega) | omega))) | with_reducible refine Gw.alloc ?_ _ | with_reducible refine Gw.drew ?_ | with_reducible refine Gw.drewN ?_ _ | (refine Gw.trans ?_ (by with_reducible assumption))))⟩
    · have h2z : 1048576 - (n : Int) < (m : Int) := by omega
      go_enter Try.func4, Try.ntmps4
      go_wp2_with fail
      all_goals
        go_ret
        exact .inl ⟨by omega, by first | rfl | (simp; omega), by (repeat (first | with_reducible exact Gw.refl _ | with_reducible assumption | ((with_reducible refine Gw.set ?_ ?_ _); rotate_left; (focus (first | (simp; done) | (simp; omega) | omega))) | with_reducible refine Gw.alloc ?_ _ | with_reducible refine Gw.drew ?_ | with_reducible refine Gw.drewN ?_ _ | (refine Gw.trans ?_ (by with_reducible assumption))))⟩
  · have h1z : (1048576 : Int) < (n : Int) := by omega
    go_enter Try.func4, Try.ntmps4
    go_wp2_with fail
    all_goals
      go_ret
      exact .inl ⟨by omega, by first | rfl | (simp; omega), by (repeat (first | with_reducible exact Gw.refl _ | with_reducible assumption | ((with_reducible refine Gw.set ?_ ?_ _); rotate_left; (focus (first | (simp; done) | (simp; omega) | omega))) | with_reducible refine Gw.alloc ?_ _ | with_reducible refine Gw.drew ?_ | with_reducible refine Gw.drewN ?_ _ | (refine Gw.trans ?_ (by with_reducible assumption))))⟩
end Go.Proofs.Ytoofpajeogllhaa
