/-
  Sections: the members of one; a player who goes to another one.
-/
import Derived.Test.YtbhkcbfmlniamaaDoorSecA
import Derived.Test.YtbhkcbfmlniamaaDoorAppend
import Derived.Test.YtbhkcbfmlniamaaDoorTyInt
namespace Go.Proofs.YtbhkcbfmlniamaaDoor
open Go.RowKit

def fromN (F : Int) (n : Nat) : List Int := (List.range n).map fun (j : Nat) => F + (j : Int)
theorem fromN_len (F : Int) (n : Nat) : (fromN F n).length = n := by simp [fromN]
theorem fromN_succ (F : Int) (n : Nat) : fromN F (n + 1) = fromN F n ++ [F + (n : Int)] := by simp [fromN, List.range_succ]
theorem ret_l1 {α : Type} {k l : List α} {A : Option Addr} {c : Nat} (h : k = l) : Ending.returned (.slice A l.length c) = .returned (.slice A k.length c) := by rw [h]
/-- The players of a section. -/
def memb (l : List Sec) (k : Nat) : List Int := fromN (ssum (l.take k)) ((l[k]?.getD (ByteArray.empty, 0, 0)).2.1.toNat)
theorem memb_at {l : List Sec} {k : Nat} {x : Sec} (hx : l[k]? = some x) : memb l k = fromN (ssum (l.take k)) x.2.1.toNat := by unfold memb; rw [hx]; rfl
theorem take_bd {l : List Sec} (h : ∀ x ∈ l, 1 ≤ x.2.1 ∧ x.2.1 ≤ 60) (k : Nat) : 0 ≤ ssum (l.take k) ∧ ssum (l.take k) ≤ 60 * l.length := by
  have h1 := ssum_bd (l := l.take k) (fun x hx => h x (List.mem_of_mem_take hx))
  rw [List.length_take] at h1
  omega
open Classical in
noncomputable def membF (l : List Sec) (i : Int) : List Int × Bool := if HasP l i then (memb l i.toNat, true) else ([], false)
theorem membF_bad {l : List Sec} {i : Int} (h : ¬HasP l i) : membF l i = ([], false) := by unfold membF; rw [if_neg h]
theorem membF_good {l : List Sec} {k : Nat} (h : HasP l k) : membF l k = (memb l k, true) := by unfold membF; rw [if_pos h]; simp
theorem membF_len (l : List Sec) (i : Int) : (membF l i).1.length ≤ 1048576 := by
  unfold membF
  split
  · rename_i h
    obtain ⟨x, hx⟩ := get_of_lt (l := l) (k := i.toNat) (by have := h.2; omega)
    rw [memb_at hx, fromN_len]
    have := h.1.size x (mem_of_get hx)
    omega
  · simp

set_option maxHeartbeats 4000000 in
set_option maxRecDepth 100000 in
theorem s_seMembers (A : Option Addr) (c : Nat) (l : List Sec) (k : Nat) (x : Sec) (w : World) (h10 : l.length ≤ 10) (hS : ∀ x ∈ l, 1 ≤ x.2.1 ∧ x.2.1 ≤ 60) (hA : Rd w A l) (hlc : l.length ≤ c) (hx : l[k]? = some x) :
    Calls Tryd.prog 36 #[.slice A l.length c, .int .i64 k] w fun e w' => ∃ A c, e = .returned (.slice A (memb l k).length c) ∧ w'.ownsRow w.heap.size 3 1 (.slice A (memb l k).length c) (memb l k).length (flat (memb l k)) ∧ Gw w w' := by
  obtain ⟨i0, hi, hz0, hz1, hz2⟩ := info_parts infoInt
  have hk : k < l.length := (List.getElem?_eq_some_iff.1 hx).1
  have hbd := take_bd hS k
  have hxs := hS x (mem_of_get hx)
  have HS : Hid (∀ y ∈ l.take k, 1 ≤ y.2.1 ∧ y.2.1 ≤ 60) := fun y hy => hS y (List.mem_of_mem_take hy)
  obtain ⟨x1, x2, x3⟩ := x
  dsimp only at hxs
  obtain ⟨n, rfl⟩ : ∃ n : Nat, x2 = n := ⟨x2.toNat, by omega⟩
  have hm : Hid (memb l k = fromN (ssum (l.take k)) n) := by unfold Hid; rw [memb_at hx]; simp
  have hlk : Hid ((l.take k).length = k) := by unfold Hid; rw [List.length_take]; omega
  have hAt := hA.take k
  obtain ⟨b, off, hae, hb, c0, c1, c2⟩ := hA.getS hx
  subst hae
  dsimp only at c0 c1 c2
  clear hx hS
  obtain ⟨F, hF⟩ : ∃ F, Hid (ssum (l.take k) = F) := ⟨_, rfl⟩
  rw [hF.out] at hbd hm
  have hk2 : k ≤ c := by omega
  go_enter Tryd.func36, Tryd.ntmps36
  go_wp2_with fail
  refine (s_seSum _ _ k (l.take k) _ hlk.out (by omega) hAt HS.out).mono ?_
  rw [hF.out]
  rintro _ w1 ⟨rfl, hb1⟩
  have hc1 := hb1.cells
  have hA1 := hA.gw hb1
  go_wp2_with fail
  go_loopw [5, 7] (fun o i wr => ∃ (j : Nat) (acc : List Int) (B : Option Addr) (c' : Nat), i = .int .i64 j ∧ j ≤ n ∧ o = .slice B acc.length c' ∧ acc.length ≤ j ∧
      wr.ownsRow w.heap.size 3 1 (.slice B acc.length c') acc.length (flat acc) ∧ Hid (acc = fromN F j) ∧ Gw w wr) (fun _ i _ => n - (intOf i).toNat)
  case atStart => exact ⟨0, [], none, 0, by go_num, Nat.zero_le _, rfl, by simp, World.ownsRow_nil _ _ _ _, rfl, hb1⟩
  case round =>
    obtain ⟨j, acc, B, c', rfl, hj, rfl, ha1, hown, hacc, hgw⟩ := hrel
    have hcr := hgw.cells
    by_cases hlt : j < n
    · have hn : Hid (acc ++ [F + (j : Int)] = fromN F (j + 1)) := by unfold Hid; rw [fromN_succ, hacc.out]
      go_wp2_with (at_builtin; refine wpList_push (α := Int) rfl (.tmp 21) (.tmp 25) 27 rfl w.heap.size 3 i0 _ 8 Tryd.underlying27 hi hz0 hz1 hz2 rfl (by omega) acc B c' rfl _ (F + (j : Int)) rfl (wr.heap.size) (by simp) rfl (hown) (by omega) (by have := hgw.size; (try simp); omega) ?_; intro acc' A' c'' w9 hacc' hl1 hl2 hown' _ hgg)
      go_roundw
      case rel => exact ⟨j + 1, acc', A', c'', by go_num, by omega, rfl, by omega, hown', by unfold Hid; rw [hacc'.out]; exact hn.out, hgg w (by (repeat (first | with_reducible exact Gw.refl _ | with_reducible assumption | ((with_reducible refine Gw.set ?_ ?_ _); rotate_left; (focus (first | (simp; done) | (simp; omega) | omega))) | with_reducible refine Gw.alloc ?_ _ | with_reducible refine Gw.drew ?_ | with_reducible refine Gw.drewN ?_ _ | (refine Gw.trans ?_ (by with_reducible assumption))))) (Nat.le_refl _)⟩
      case measure => simp [intOf]; omega
    · obtain rfl : j = n := by omega
      have hfin : Hid (memb l k = acc) := by unfold Hid; rw [hm.out, hacc.out]
      go_wp2_with fail
      go_ret
      exact ⟨B, c', ret_l1 hfin.out, by rw [hfin.out]; exact hown, by (repeat (first | with_reducible exact Gw.refl _ | with_reducible assumption | ((with_reducible refine Gw.set ?_ ?_ _); rotate_left; (focus (first | (simp; done) | (simp; omega) | omega))) | with_reducible refine Gw.alloc ?_ _ | with_reducible refine Gw.drew ?_ | with_reducible refine Gw.drewN ?_ _ | (refine Gw.trans ?_ (by with_reducible assumption))))⟩

set_option maxHeartbeats 1000000 in
theorem s_MembersOf (A : Option Addr) (c : Nat) (l : List Sec) (i : Int) (w : World) (hl : l.length ≤ 1048576) (hz : ∀ x ∈ l, x.1.size ≤ 9223372036854775807) (hA : Rd w A l) (hlc : l.length ≤ c) :
    Calls Tryd.prog 9 #[.slice A l.length c, .int .i64 i] w fun e w' => ∃ A c, e = .returned (.tuple #[.slice A (membF l i).1.length c, .bool (membF l i).2]) ∧ w'.ownsRow w.heap.size 3 1 (.slice A ((membF l i).1).length c) ((membF l i).1).length (flat ((membF l i).1)) ∧ Gw w w' := by
  go_enter Tryd.func9, Tryd.ntmps9
  go_wp2_with fail
  refine (s_seHas _ _ _ _ _ hl hz hA hlc).mono ?_
  rintro _ w1 (⟨hp, rfl, hb1⟩ | ⟨hp, rfl, hb1⟩)
  case inr =>
    have hno : membF l i = ([], false) := membF_bad hp
    clear hp
    have hno := Lib.hid hno
    go_wp2_with fail
    go_ret2
    exact ⟨none, 0, ret_lb (A := none) (c := 0) hno.out, by rw [hno.out]; exact World.ownsRow_nil _ _ _ _, hb1⟩
  have HP := Lib.hid hp
  obtain ⟨k, rfl⟩ : ∃ k : Nat, i = k := ⟨i.toNat, by have := hp.2; omega⟩
  obtain ⟨x, hx⟩ := get_of_lt (l := l) (k := k) (by have := hp.2; omega)
  have Hx := Lib.hid hx
  clear hp hx
  have hv := Lib.hid (membF_good HP.out)
  go_wp2_with fail
  refine (s_seMembers _ _ _ _ _ _ HP.out.1.2.2.1.2 HP.out.1.size (hA.gw hb1) hlc Hx.out).mono ?_
  rintro _ w2 ⟨B, c', rfl, hown, hb2⟩
  go_wp2_with fail
  go_ret2
  exact ⟨B, c', ret_lb hv.out, by rw [hv.out]; exact own_lower hown hb1.size, Gw.trans hb1 hb2⟩

set_option maxHeartbeats 1000000 in
theorem i_firstPlayer (A : Option Addr) (c : Nat) (l : List Sec) (k : Nat) (w : World) (h10 : l.length ≤ 10) (hS : ∀ x ∈ l, 1 ≤ x.2.1 ∧ x.2.1 ≤ 60) (hA : Rd w A l) (hlc : l.length ≤ c) (hk : k ≤ l.length) :
    Calls Tryd.prog 34 #[.slice A l.length c, .int .i64 k] w fun e w' => e = .returned (.int .i64 (ssum (l.take k))) ∧ Gw w w' := by
  have hk2 : k ≤ c := by omega
  have HS := Lib.hid hS
  clear hS
  go_enter Tryd.func34, Tryd.ntmps34
  go_wp2_with fail
  go_loopw [5, 12] (fun q i wr => ∃ (j : Nat) (v : Int), i = .int .i64 j ∧ q = .int .i64 v ∧ j ≤ k ∧ 0 ≤ v ∧ v ≤ 60 * j ∧ Hid (v = ssum (l.take j)) ∧ Gw w wr) (fun _ i _ => k - (intOf i).toNat)
  case atStart => exact ⟨0, 0, by go_num, by go_num, Nat.zero_le _, by omega, by omega, by simp [Hid, ssum], by (repeat (first | with_reducible exact Gw.refl _ | with_reducible assumption | ((with_reducible refine Gw.set ?_ ?_ _); rotate_left; (focus (first | (simp; done) | (simp; omega) | omega))) | with_reducible refine Gw.alloc ?_ _ | with_reducible refine Gw.drew ?_ | with_reducible refine Gw.drewN ?_ _ | (refine Gw.trans ?_ (by with_reducible assumption))))⟩
  case round =>
    obtain ⟨j, v, rfl, rfl, hj, hv0, hv1, hv, hgw⟩ := hrel
    by_cases hlt : j < k
    · obtain ⟨x, hx⟩ := get_of_lt (l := l) (k := j) (by omega)
      have hxp := HS.out x (mem_of_get hx)
      obtain ⟨b, off, rfl, hb, c0, c1, c2⟩ := (hA.gw hgw).getS hx
      have hvn : Hid (v + x.2.1 = ssum (l.take (j + 1))) := by unfold Hid; rw [take_succ_of hx, ssum_snoc, hv.out]
      clear hx
      go_wp2_with fail
      go_roundw
      case rel => exact ⟨j + 1, v + x.2.1, by go_num, by go_num, by omega, by omega, by omega, hvn, by (repeat (first | with_reducible exact Gw.refl _ | with_reducible assumption | ((with_reducible refine Gw.set ?_ ?_ _); rotate_left; (focus (first | (simp; done) | (simp; omega) | omega))) | with_reducible refine Gw.alloc ?_ _ | with_reducible refine Gw.drew ?_ | with_reducible refine Gw.drewN ?_ _ | (refine Gw.trans ?_ (by with_reducible assumption))))⟩
      case measure => simp [intOf]; omega
    · obtain rfl : j = k := by omega
      go_wp2_with fail
      go_ret
      exact ⟨ret_int hv.out, by (repeat (first | with_reducible exact Gw.refl _ | with_reducible assumption | ((with_reducible refine Gw.set ?_ ?_ _); rotate_left; (focus (first | (simp; done) | (simp; omega) | omega))) | with_reducible refine Gw.alloc ?_ _ | with_reducible refine Gw.drew ?_ | with_reducible refine Gw.drewN ?_ _ | (refine Gw.trans ?_ (by with_reducible assumption))))⟩

set_option maxHeartbeats 4000000 in
set_option maxRecDepth 100000 in
theorem i_MembersOf (A : Option Addr) (c : Nat) (l : List Sec) (i : Int) (w : World) (hl : l.length ≤ 1048576) (hz : ∀ x ∈ l, x.1.size ≤ 9223372036854775807) (hA : Rd w A l) (hlc : l.length ≤ c) :
    Calls Tryd.prog 8 #[.slice A l.length c, .int .i64 i] w fun e w' => ∃ A c, e = .returned (.tuple #[.slice A (membF l i).1.length c, .bool (membF l i).2]) ∧ w'.ownsRow w.heap.size 3 1 (.slice A ((membF l i).1).length c) ((membF l i).1).length (flat ((membF l i).1)) ∧ Gw w w' := by
  have Hz := Lib.hid hz
  clear hz
  obtain ⟨i0, hi, hz0, hz1, hz2⟩ := info_parts infoInt
  go_enter Tryd.func8, Tryd.ntmps8
  go_wp2_with fail
  refine (i_isSection _ _ _ _ _ hl Hz.out hA hlc).mono ?_
  rintro _ w1 (⟨hp, rfl, hb1⟩ | ⟨hp, rfl, hb1⟩)
  case inr =>
    have hno : membF l i = ([], false) := membF_bad hp
    clear hp
    have hno := Lib.hid hno
    go_wp2_with fail
    go_ret2
    exact ⟨none, 0, ret_lb (A := none) (c := 0) hno.out, by rw [hno.out]; exact World.ownsRow_nil _ _ _ _, hb1⟩
  have HP := Lib.hid hp
  have h10 := hp.1.2.2.1.2
  have hi1 := hp.2
  obtain ⟨k, rfl⟩ : ∃ k : Nat, i = k := ⟨i.toNat, by omega⟩
  obtain ⟨x, hx⟩ := get_of_lt (l := l) (k := k) (by omega)
  have hbd := take_bd hp.1.size k
  have hxs := hp.1.size x (mem_of_get hx)
  obtain ⟨x1, x2, x3⟩ := x
  dsimp only at hxs
  obtain ⟨n, rfl⟩ : ∃ n : Nat, x2 = n := ⟨x2.toNat, by omega⟩
  have hm : Hid (memb l k = fromN (ssum (l.take k)) n) := by unfold Hid; rw [memb_at hx]; simp
  obtain ⟨b, off, hae, hb, c0, c1, c2⟩ := hA.getS hx
  subst hae
  dsimp only at c0 c1 c2
  have hv := Lib.hid (membF_good HP.out)
  clear hp hx
  have hcc1 := hb1.cells; have hzz1 := hb1.size
  obtain ⟨F, hF⟩ : ∃ F, Hid (ssum (l.take k) = F) := ⟨_, rfl⟩
  rw [hF.out] at hbd hm
  go_wp2_with fail
  refine (i_firstPlayer _ _ l k _ h10 HP.out.1.size (hA.gw (by (repeat (first | with_reducible exact Gw.refl _ | with_reducible assumption | ((with_reducible refine Gw.set ?_ ?_ _); rotate_left; (focus (first | (simp; done) | (simp; omega) | omega))) | with_reducible refine Gw.alloc ?_ _ | with_reducible refine Gw.drew ?_ | with_reducible refine Gw.drewN ?_ _ | (refine Gw.trans ?_ (by with_reducible assumption)))))) hlc (by omega)).mono ?_
  rw [hF.out]
  rintro _ w2 ⟨rfl, hb2⟩
  have hcc2 := hb2.cells
  have hG2 : Gw w w2 := by (repeat (first | with_reducible exact Gw.refl _ | with_reducible assumption | ((with_reducible refine Gw.set ?_ ?_ _); rotate_left; (focus (first | (simp; done) | (simp; omega) | omega))) | with_reducible refine Gw.alloc ?_ _ | with_reducible refine Gw.drew ?_ | with_reducible refine Gw.drewN ?_ _ | (refine Gw.trans ?_ (by with_reducible assumption))))
  have hzz2 := hb2.size; (try simp at hzz2)
  have hzz3 := hG2.size
  have hbz : b < w1.heap.size := by omega
  go_wp2_with fail
  go_loopw [6, 22] (fun o i wr => ∃ (j : Nat) (acc : List Int) (B : Option Addr) (c' : Nat), i = .int .i64 j ∧ j ≤ n ∧ o = .slice B acc.length c' ∧ acc.length ≤ j ∧
      wr.ownsRow w.heap.size 3 1 (.slice B acc.length c') acc.length (flat acc) ∧ Hid (acc = fromN F j) ∧ Gw w wr) (fun _ i _ => n - (intOf i).toNat)
  case atStart => exact ⟨0, [], some ⟨w1.heap.size, 0, none⟩, 0, by go_num, Nat.zero_le _, rfl, by simp, own_gw (World.ownsRow_made w1 #[] 0 hb1.size (by simp [maxLen]) (by simp)) hb2, rfl, hG2⟩
  case round =>
    obtain ⟨j, acc, B, c', rfl, hj, rfl, ha1, hown, hacc, hgw⟩ := hrel
    by_cases hlt : j < n
    · have hn : Hid (acc ++ [F + (j : Int)] = fromN F (j + 1)) := by unfold Hid; rw [fromN_succ, hacc.out]
      go_wp2_with (at_builtin; refine wpList_push (α := Int) rfl (.tmp 25) (.tmp 29) 27 rfl w.heap.size 3 i0 _ 8 Tryd.underlying27 hi hz0 hz1 hz2 rfl (by omega) acc B c' rfl _ (F + (j : Int)) rfl (wr.heap.size) (by simp) rfl (hown) (by omega) (by have := hgw.size; (try simp); omega) ?_; intro acc' A' c'' w9 hacc' hl1 hl2 hown' _ hgg)
      go_roundw
      case rel => exact ⟨j + 1, acc', A', c'', by go_num, by omega, rfl, by omega, hown', by unfold Hid; rw [hacc'.out]; exact hn.out, hgg w (by (repeat (first | with_reducible exact Gw.refl _ | with_reducible assumption | ((with_reducible refine Gw.set ?_ ?_ _); rotate_left; (focus (first | (simp; done) | (simp; omega) | omega))) | with_reducible refine Gw.alloc ?_ _ | with_reducible refine Gw.drew ?_ | with_reducible refine Gw.drewN ?_ _ | (refine Gw.trans ?_ (by with_reducible assumption))))) (Nat.le_refl _)⟩
      case measure => simp [intOf]; omega
    · obtain rfl : j = n := by omega
      have hfin : Hid (membF l k = (acc, true)) := by unfold Hid; rw [hv.out, hm.out, hacc.out]
      go_wp2_with fail
      go_ret2
      exact ⟨B, c', ret_lb hfin.out, by rw [hfin.out]; exact hown, by (repeat (first | with_reducible exact Gw.refl _ | with_reducible assumption | ((with_reducible refine Gw.set ?_ ?_ _); rotate_left; (focus (first | (simp; done) | (simp; omega) | omega))) | with_reducible refine Gw.alloc ?_ _ | with_reducible refine Gw.drew ?_ | with_reducible refine Gw.drewN ?_ _ | (refine Gw.trans ?_ (by with_reducible assumption))))⟩

end Go.Proofs.YtbhkcbfmlniamaaDoor
