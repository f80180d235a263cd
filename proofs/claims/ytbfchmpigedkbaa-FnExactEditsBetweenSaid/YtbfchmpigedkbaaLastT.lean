/-
  The last edit of a performer.
-/
import Derived.Test.YtbfchmpigedkbaaEdit
namespace Go.Proofs.Ytbfchmpigedkbaa
open Go.RowKit

/-- The last index below k at which C holds, or -1. -/
def lastTo {α : Type} (C : α → Bool) (l : List α) : Nat → Int
  | 0 => -1
  | k + 1 => match l[k]? with
    | some x => if C x = true then (k : Int) else lastTo C l k
    | none => lastTo C l k
theorem lastTo_yes {α : Type} {C : α → Bool} {l : List α} {k : Nat} {x : α} (hx : l[k]? = some x) (hc : C x = true) : lastTo C l (k + 1) = k := by
  simp only [lastTo, hx, hc, if_true]
theorem lastTo_no {α : Type} {C : α → Bool} {l : List α} {k : Nat} {x : α} (hx : l[k]? = some x) (hc : C x = false) : lastTo C l (k + 1) = lastTo C l k := by
  simp [lastTo, hx, hc]
theorem lastTo_bd {α : Type} (C : α → Bool) (l : List α) (k : Nat) : -1 ≤ lastTo C l k ∧ lastTo C l k < k := by
  induction k with
  | zero => simp [lastTo]
  | succ k ih =>
    unfold lastTo
    split
    · split <;> omega
    · omega

set_option maxHeartbeats 1000000 in
theorem s_edLast (A : Option Addr) (n c : Nat) (l : List (Int × Int × Int × Int × Int × Int)) (p : Int) (w : World) (hn : l.length = n) (hl : n ≤ 1048576) (hA : Rd w A l) :
    Calls Try.prog 33 #[.slice A n c, .int .i64 p] w fun e w' => e = .returned (.int .i64 (lastTo (fun x : (Int × Int × Int × Int × Int × Int) => x.2.1 == p) l n)) ∧ Gw w w' := by
  have Hn : Hid (l.length = n) := hn
  clear hn
  go_enter Try.func33, Try.ntmps33
  go_wp2_with fail
  go_loopw [5, 10] (fun s i wr => ∃ (k : Nat) (q : Int), i = .int .i64 k ∧ k ≤ n ∧ s = .int .i64 q ∧ Hid (q = lastTo (fun x : (Int × Int × Int × Int × Int × Int) => x.2.1 == p) l k) ∧ Gw w wr) (fun _ i _ => n - (intOf i).toNat)
  case atStart => exact ⟨0, -1, by go_num, Nat.zero_le _, rfl, rfl, by (repeat (first | with_reducible exact Gw.refl _ | with_reducible assumption | ((with_reducible refine Gw.set ?_ ?_ _); rotate_left; (focus (first | (simp; done) | (simp; omega) | omega))) | with_reducible refine Gw.alloc ?_ _ | with_reducible refine Gw.drew ?_ | with_reducible refine Gw.drewN ?_ _ | (refine Gw.trans ?_ (by with_reducible assumption))))⟩
  case round =>
    obtain ⟨k, q, rfl, hk, rfl, hq, hgw⟩ := hrel
    by_cases hlt : k < n
    · obtain ⟨x, hx⟩ := get_of_lt (l := l) (k := k) (by rw [Hn.out]; exact hlt)
      obtain ⟨b, off, rfl, hb, c0, c1, c2, c3, c4, c5⟩ := (hA.gw hgw).get6 hx
      have Hx : Hid (l[k]? = some x) := hx
      clear hx
      by_cases hC : x.2.1 = p
      · have hb0 : (x.2.1 == p) = true := by simp [hC]
        have hn' : Hid ((k : Int) = lastTo (fun x : (Int × Int × Int × Int × Int × Int) => x.2.1 == p) l (k + 1)) := (lastTo_yes Hx.out hb0).symm
        have HC : Hid (x.2.1 = p) := hC
        clear hC
        go_wp2_with fail
        go_roundw
        case rel => exact ⟨k + 1, k, by go_num, by omega, rfl, hn', by (repeat (first | with_reducible exact Gw.refl _ | with_reducible assumption | ((with_reducible refine Gw.set ?_ ?_ _); rotate_left; (focus (first | (simp; done) | (simp; omega) | omega))) | with_reducible refine Gw.alloc ?_ _ | with_reducible refine Gw.drew ?_ | with_reducible refine Gw.drewN ?_ _ | (refine Gw.trans ?_ (by with_reducible assumption))))⟩
        case measure => simp [intOf]; omega
      · have hb0 : (x.2.1 == p) = false := by simp [hC]
        have hn' : Hid (q = lastTo (fun x : (Int × Int × Int × Int × Int × Int) => x.2.1 == p) l (k + 1)) := by unfold Hid; rw [lastTo_no Hx.out hb0]; exact hq.out
        have HC : Hid (¬x.2.1 = p) := hC
        clear hC
        go_wp2_with fail
        go_roundw
        case rel => exact ⟨k + 1, q, by go_num, by omega, rfl, hn', by (repeat (first | with_reducible exact Gw.refl _ | with_reducible assumption | ((with_reducible refine Gw.set ?_ ?_ _); rotate_left; (focus (first | (simp; done) | (simp; omega) | omega))) | with_reducible refine Gw.alloc ?_ _ | with_reducible refine Gw.drew ?_ | with_reducible refine Gw.drewN ?_ _ | (refine Gw.trans ?_ (by with_reducible assumption))))⟩
        case measure => simp [intOf]; omega
    · obtain rfl : k = n := by omega
      go_wp2_with fail
      go_ret
      exact ⟨ret_int hq.out, by (repeat (first | with_reducible exact Gw.refl _ | with_reducible assumption | ((with_reducible refine Gw.set ?_ ?_ _); rotate_left; (focus (first | (simp; done) | (simp; omega) | omega))) | with_reducible refine Gw.alloc ?_ _ | with_reducible refine Gw.drew ?_ | with_reducible refine Gw.drewN ?_ _ | (refine Gw.trans ?_ (by with_reducible assumption))))⟩

open Classical in
noncomputable def lastTouch (l : List (Int × Int × Int × Int × Int × Int)) (p : Int) : Int × Bool := if (EditsP l ∧ InR p 0 11) ∧ 0 ≤ lastTo (fun x : (Int × Int × Int × Int × Int × Int) => x.2.1 == p) l l.length then (lastTo (fun x : (Int × Int × Int × Int × Int × Int) => x.2.1 == p) l l.length, true) else (0, false)

end Go.Proofs.Ytbfchmpigedkbaa
