/-
  Sections: the members of one; a player who goes to another one.
-/
import Derived.Test.YtopaekijhkfhpaaSecA
import Derived.Test.YtopaekijhkfhpaaAppend
import Derived.Test.YtopaekijhkfhpaaTyInt
namespace Go.Proofs.Ytopaekijhkfhpaa
open Go.RowKit

def fromN (F : Int) (n : Nat) : List Int := (List.range n).map fun (j : Nat) => F + (j : Int)
theorem fromN_len (F : Int) (n : Nat) : (fromN F n).length = n := by simp [fromN]
theorem fromN_succ (F : Int) (n : Nat) : fromN F (n + 1) = fromN F n ++ [F + (n : Int)] := by simp [fromN, List.range_succ]
theorem ret_l1 {α : Type} {k l : List α} {A : Option Addr} {c : Nat} (h : k = l) : Ending.returned (.slice A l.length c) = .returned (.slice A k.length c) := by rw [h]
/-- The players of a section. -/
def memb (l : List Sec) (k : Nat) : List Int := fromN (ssum (l.take k)) ((l[k]?.getD (ByteArray.empty, 0, 0)).2.1.toNat)
theorem memb_at {l : List Sec} {k : Nat} {x : Sec} (hx : l[k]? = some x) : memb l k = fromN (ssum (l.take k)) x.2.1.toNat := by unfold memb; rw [hx]; rfl
theorem take_bd {l : List Sec} (h : ∀ x ∈ l, 1 ≤ x.2.1 ∧ x.2.1 ≤ 60) (k : Nat) : 0 ≤ ssum (l.take k) ∧ ssum (l.take k) ≤ 60 * l.length := by
  have h1 := ssum_bd (l := l.take k) (fun x hx => h x (List.mem_of_mem_take hx))
  rw [List.length_take] at h1
  omega
open Classical in
noncomputable def membF (l : List Sec) (i : Int) : List Int × Bool := if HasP l i then (memb l i.toNat, true) else ([], false)
theorem membF_bad {l : List Sec} {i : Int} (h : ¬HasP l i) : membF l i = ([], false) := by unfold membF; rw [if_neg h]
theorem membF_good {l : List Sec} {k : Nat} (h : HasP l k) : membF l k = (memb l k, true) := by unfold membF; rw [if_pos h]; simp
theorem membF_len (l : List Sec) (i : Int) : (membF l i).1.length ≤ 1048576 := by
  unfold membF
  split
  · rename_i h
    obtain ⟨x, hx⟩ := get_of_lt (l := l) (k := i.toNat) (by have := h.2; omega)
    rw [memb_at hx, fromN_len]
    have := h.1.size x (mem_of_get hx)
    omega
  · simp

set_option maxHeartbeats 4000000 in
set_option maxRecDepth 100000 in
theorem s_seMembers (A : Option Addr) (c : Nat) (l : List Sec) (k : Nat) (x : Sec) (w : World) (h10 : l.length ≤ 10) (hS : ∀ x ∈ l, 1 ≤ x.2.1 ∧ x.2.1 ≤ 60) (hA : Rd w A l) (hlc : l.length ≤ c) (hx : l[k]? = some x) :
    Calls Try.prog 37 #[.slice A l.length c, .int .i64 k] w fun e w' => ∃ A c, e = .returned (.slice A (memb l k).length c) ∧ w'.ownsRow w.heap.size 3 1 (.slice A (memb l k).length c) (memb l k).length (flat (memb l k)) ∧ Gw w w' := by
  obtain ⟨i0, hi, hz0, hz1, hz2⟩ := info_parts infoInt
  have hk : k < l.length := (List.getElem?_eq_some_iff.1 hx).1
  have hbd := take_bd hS k
  have hxs := hS x (mem_of_get hx)
  have HS : Hid (∀ y ∈ l.take k, 1 ≤ y.2.1 ∧ y.2.1 ≤ 60) := fun y hy => hS y (List.mem_of_mem_take hy)
  obtain ⟨x1, x2, x3⟩ := x
  dsimp only at hxs
  obtain ⟨n, rfl⟩ : ∃ n : Nat, x2 = n := ⟨x2.toNat, by omega⟩
  have hm : Hid (memb l k = fromN (ssum (l.take k)) n) := by unfold Hid; rw [memb_at hx]; simp
  have hlk : Hid ((l.take k).length = k) := by unfold Hid; rw [List.length_take]; omega
  have hAt := hA.take k
  obtain ⟨b, off, hae, hb, c0, c1, c2⟩ := hA.getS hx
  subst hae
  dsimp only at c0 c1 c2
  clear hx hS
  obtain ⟨F, hF⟩ : ∃ F, Hid (ssum (l.take k) = F) := ⟨_, rfl⟩
  rw [hF.out] at hbd hm
  have hk2 : k ≤ c := by omega
  go_enter Try.func37, Try.ntmps37
  go_wp2_with fail
  refine (s_seSum _ _ k (l.take k) _ hlk.out (by omega) hAt HS.out).mono ?_
  rw [hF.out]
  rintro _ w1 ⟨rfl, hb1⟩
  have hc1 := hb1.cells
  have hA1 := hA.gw hb1
  go_wp2_with fail
  go_loopw [5, 7] (fun o i wr => ∃ (j : Nat) (acc : List Int) (B : Option Addr) (c' : Nat), i = .int .i64 j ∧ j ≤ n ∧ o = .slice B acc.length c' ∧ acc.length ≤ j ∧
      wr.ownsRow w.heap.size 3 1 (.slice B acc.length c') acc.length (flat acc) ∧ Hid (acc = fromN F j) ∧ Gw w wr) (fun _ i _ => n - (intOf i).toNat)
  case atStart => exact ⟨0, [], none, 0, by go_num, Nat.zero_le _, rfl, by simp, World.ownsRow_nil _ _ _ _, rfl, hb1⟩
  case round =>
    obtain ⟨j, acc, B, c', rfl, hj, rfl, ha1, hown, hacc, hgw⟩ := hrel
    have hcr := hgw.cells
    by_cases hlt : j < n
    · have hn : Hid (acc ++ [F + (j : Int)] = fromN F (j + 1)) := by unfold Hid; rw [fromN_succ, hacc.out]
      go_wp2_with (at_builtin; refine wpList_push (α := Int) rfl (.tmp 21) (.tmp 25) 57 rfl w.heap.size 3 i0 _ 8 Try.underlying57 hi hz0 hz1 hz2 rfl (by omega) acc B c' rfl _ (F + (j : Int)) rfl (wr.heap.size) (by simp) rfl (hown) (by omega) (by have := hgw.size; (try simp); omega) ?_; intro acc' A' c'' w9 hacc' hl1 hl2 hown' _ hgg)
      go_roundw
      case rel => exact ⟨j + 1, acc', A', c'', by go_num, by omega, rfl, by omega, hown', by unfold Hid; rw [hacc'.out]; exact hn.out, hgg w (by (repeat (first | with_reducible exact Gw.refl _ | with_reducible assumption | ((with_reducible refine Gw.set ?_ ?_ _); rotate_left; (focus (first | (simp; done) | (simp; omega) | omega))) | with_reducible refine Gw.alloc ?_ _ | with_reducible refine Gw.drew ?_ | with_reducible refine Gw.drewN ?_ _ | (refine Gw.trans ?_ (by with_reducible assumption))))) (Nat.le_refl _)⟩
      case measure => simp [intOf]; omega
    · obtain rfl : j = n := by omega
      have hfin : Hid (memb l k = acc) := by unfold Hid; rw [hm.out, hacc.out]
      go_wp2_with fail
      go_ret
      exact ⟨B, c', ret_l1 hfin.out, by rw [hfin.out]; exact hown, by (repeat (first | with_reducible exact Gw.refl _ | with_reducible assumption | ((with_reducible refine Gw.set ?_ ?_ _); rotate_left; (focus (first | (simp; done) | (simp; omega) | omega))) | with_reducible refine Gw.alloc ?_ _ | with_reducible refine Gw.drew ?_ | with_reducible refine Gw.drewN ?_ _ | (refine Gw.trans ?_ (by with_reducible assumption))))⟩

end Go.Proofs.Ytopaekijhkfhpaa
