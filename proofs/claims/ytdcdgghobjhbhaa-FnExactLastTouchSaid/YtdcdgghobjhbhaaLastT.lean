/-
  The last edit of a performer.
-/
import Derived.Test.YtdcdgghobjhbhaaEdit
namespace Go.Proofs.Ytdcdgghobjhbhaa
open Go.RowKit

/-- The last index below k at which C holds, or -1. -/
def lastTo {α : Type} (C : α → Bool) (l : List α) : Nat → Int
  | 0 => -1
  | k + 1 => match l[k]? with
    | some x => if C x = true then (k : Int) else lastTo C l k
    | none => lastTo C l k
theorem lastTo_yes {α : Type} {C : α → Bool} {l : List α} {k : Nat} {x : α} (hx : l[k]? = some x) (hc : C x = true) : lastTo C l (k + 1) = k := by
  simp only [lastTo, hx, hc, if_true]
theorem lastTo_no {α : Type} {C : α → Bool} {l : List α} {k : Nat} {x : α} (hx : l[k]? = some x) (hc : C x = false) : lastTo C l (k + 1) = lastTo C l k := by
  simp [lastTo, hx, hc]
theorem lastTo_bd {α : Type} (C : α → Bool) (l : List α) (k : Nat) : -1 ≤ lastTo C l k ∧ lastTo C l k < k := by
  induction k with
  | zero => simp [lastTo]
  | succ k ih =>
    unfold lastTo
    split
    · split <;> omega
    · omega

set_option maxHeartbeats 1000000 in
theorem s_edLast (A : Option Addr) (n c : Nat) (l : List (Int × Int × Int × Int × Int × Int)) (p : Int) (w : World) (hn : l.length = n) (hl : n ≤ 1048576) (hA : Rd w A l) :
    Calls Try.prog 51 #[.slice A n c, .int .i64 p] w fun e w' => e = .returned (.int .i64 (lastTo (fun x : (Int × Int × Int × Int × Int × Int) => x.2.1 == p) l n)) ∧ Gw w w' := by
  have Hn : Hid (l.length = n) := hn
  clear hn
  go_enter Try.func51, Try.ntmps51
  go_wp2_with fail
  go_loopw [5, 10] (fun s i wr => ∃ (k : Nat) (q : Int), i = .int .i64 k ∧ k ≤ n ∧ s = .int .i64 q ∧ Hid (q = lastTo (fun x : (Int × Int × Int × Int × Int × Int) => x.2.1 == p) l k) ∧ Gw w wr) (fun _ i _ => n - (intOf i).toNat)
  case atStart => exact ⟨0, -1, by go_num, Nat.zero_le _, rfl, rfl, by (repeat (first | with_reducible exact Gw.refl _ | with_reducible assumption | ((with_reducible refine Gw.set ?_ ?_ _); rotate_left; (focus (first | (simp; done) | (simp; omega) | omega))) | with_reducible refine Gw.alloc ?_ _ | with_reducible refine Gw.drew ?_ | with_reducible refine Gw.drewN ?_ _ | (refine Gw.trans ?_ (by with_reducible assumption))))⟩
  case round =>
    obtain ⟨k, q, rfl, hk, rfl, hq, hgw⟩ := hrel
    by_cases hlt : k < n
    · obtain ⟨x, hx⟩ := get_of_lt (l := l) (k := k) (by rw [Hn.out]; exact hlt)
      obtain ⟨b, off, rfl, hb, c0, c1, c2, c3, c4, c5⟩ := (hA.gw hgw).get6 hx
      have Hx : Hid (l[k]? = some x) := hx
      clear hx
      by_cases hC : x.2.1 = p
      · have hb0 : (x.2.1 == p) = true := by simp [hC]
        have hn' : Hid ((k : Int) = lastTo (fun x : (Int × Int × Int × Int × Int × Int) => x.2.1 == p) l (k + 1)) := (lastTo_yes Hx.out hb0).symm
        have HC : Hid (x.2.1 = p) := hC
        clear hC
        go_wp2_with fail
        go_roundw
        case rel => exact ⟨k + 1, k, by go_num, by omega, rfl, hn', by (repeat (first | with_reducible exact Gw.refl _ | with_reducible assumption | ((with_reducible refine Gw.set ?_ ?_ _); rotate_left; (focus (first | (simp; done) | (simp; omega) | omega))) | with_reducible refine Gw.alloc ?_ _ | with_reducible refine Gw.drew ?_ | with_reducible refine Gw.drewN ?_ _ | (refine Gw.trans ?_ (by with_reducible assumption))))⟩
        case measure => simp [intOf]; omega
      · have hb0 : (x.2.1 == p) = false := by simp [hC]
        have hn' : Hid (q = lastTo (fun x : (Int × Int × Int × Int × Int × Int) => x.2.1 == p) l (k + 1)) := by unfold Hid; rw [lastTo_no Hx.out hb0]; exact hq.out
        have HC : Hid (¬x.2.1 = p) := hC
        clear hC
        go_wp2_with fail
        go_roundw
        case rel => exact ⟨k + 1, q, by go_num, by omega, rfl, hn', by (repeat (first | with_reducible exact Gw.refl _ | with_reducible assumption | ((with_reducible refine Gw.set ?_ ?_ _); rotate_left; (focus (first | (simp; done) | (simp; omega) | omega))) | with_reducible refine Gw.alloc ?_ _ | with_reducible refine Gw.drew ?_ | with_reducible refine Gw.drewN ?_ _ | (refine Gw.trans ?_ (by with_reducible assumption))))⟩
        case measure => simp [intOf]; omega
    · obtain rfl : k = n := by omega
      go_wp2_with fail
      go_ret
      exact ⟨ret_int hq.out, by (repeat (first | with_reducible exact Gw.refl _ | with_reducible assumption | ((with_reducible refine Gw.set ?_ ?_ _); rotate_left; (focus (first | (simp; done) | (simp; omega) | omega))) | with_reducible refine Gw.alloc ?_ _ | with_reducible refine Gw.drew ?_ | with_reducible refine Gw.drewN ?_ _ | (refine Gw.trans ?_ (by with_reducible assumption))))⟩

open Classical in
noncomputable def lastTouch (l : List (Int × Int × Int × Int × Int × Int)) (p : Int) : Int × Bool := if (EditsP l ∧ InR p 0 11) ∧ 0 ≤ lastTo (fun x : (Int × Int × Int × Int × Int × Int) => x.2.1 == p) l l.length then (lastTo (fun x : (Int × Int × Int × Int × Int × Int) => x.2.1 == p) l l.length, true) else (0, false)

set_option maxHeartbeats 1000000 in
theorem s_LastTouch (A : Option Addr) (c : Nat) (l : List (Int × Int × Int × Int × Int × Int)) (p : Int) (w : World) (hl : l.length ≤ 1048576) (hA : Rd w A l) :
    Calls Try.prog 16 #[.slice A l.length c, .int .i64 p] w fun e w' => e = .returned (.tuple #[.int .i64 (lastTouch l p).1, .bool (lastTouch l p).2]) ∧ Gw w w' := by
  have hbd := lastTo_bd (fun x : (Int × Int × Int × Int × Int × Int) => x.2.1 == p) l l.length
  obtain ⟨q, hq⟩ : ∃ q, lastTo (fun x : (Int × Int × Int × Int × Int × Int) => x.2.1 == p) l l.length = q := ⟨_, rfl⟩
  rw [hq] at hbd
  have Hq : Hid (lastTo (fun x : (Int × Int × Int × Int × Int × Int) => x.2.1 == p) l l.length = q) := hq
  clear hq
  go_enter Try.func16, Try.ntmps16
  go_wp2_with (first | (go_at_call 49; refine (s_edAll _ _ _ _ hl hA).mono ?_; rintro e w' (⟨hp, rfl, hb⟩ | ⟨hp, rfl, hb⟩) <;> (have hc := hb.cells; have hf := hb.frozens; have hz := hb.size; (try simp at hz); (try have hz0 : w.heap.size < w'.heap.size := (by omega)); (try have hz1 : w.heap.size + 1 < w'.heap.size := (by omega)); (try have hz2 : w.heap.size + 2 < w'.heap.size := (by omega)); (try have hz3 : w.heap.size + 3 < w'.heap.size := (by omega)); (try have hz4 : w.heap.size + 4 < w'.heap.size := (by omega)); (try have hz5 : w.heap.size + 5 < w'.heap.size := (by omega)); have hA1 := hA.gw hb)) | (go_at_call 50; refine (s_l1In _ _ _ _).mono ?_; rintro e w' (⟨hp, rfl, rfl⟩ | ⟨hp, rfl, rfl⟩)) | (go_at_call 51; refine (s_edLast _ _ _ _ _ _ rfl hl (by assumption)).mono ?_; rw [Hq.out]; rintro e w' ⟨rfl, hb⟩; have hc := hb.cells; have hf := hb.frozens; have hz := hb.size; (try simp at hz); (try have hz0 : w.heap.size < w'.heap.size := (by omega)); (try have hz1 : w.heap.size + 1 < w'.heap.size := (by omega)); (try have hz2 : w.heap.size + 2 < w'.heap.size := (by omega)); (try have hz3 : w.heap.size + 3 < w'.heap.size := (by omega)); (try have hz4 : w.heap.size + 4 < w'.heap.size := (by omega)); (try have hz5 : w.heap.size + 5 < w'.heap.size := (by omega)); have hA1 := (by assumption : Rd _ A l).gw hb))
  all_goals
    go_ret2
    exact ⟨ret_ib (f := lastTouch l p) (by unfold lastTouch; rw [Hq.out]; first | rw [if_pos ⟨⟨by assumption, by omega⟩, by omega⟩] | rw [if_neg (fun h => by first | exact absurd h.1.1 (by assumption) | (have := h.1.2; have := h.2; omega))]), by (repeat (first | with_reducible exact Gw.refl _ | with_reducible assumption | ((with_reducible refine Gw.set ?_ ?_ _); rotate_left; (focus (first | (simp; done) | (simp; omega) | omega))) | with_reducible refine Gw.alloc ?_ _ | with_reducible refine Gw.drew ?_ | with_reducible refine Gw.drewN ?_ _ | (refine Gw.trans ?_ (by with_reducible assumption))))⟩

set_option maxHeartbeats 1000000 in
theorem i_LastTouch (A : Option Addr) (c : Nat) (l : List (Int × Int × Int × Int × Int × Int)) (p : Int) (w : World) (hl : l.length ≤ 1048576) (hA : Rd w A l) :
    Calls Try.prog 18 #[.slice A l.length c, .int .i64 p] w fun e w' => e = .returned (.tuple #[.int .i64 (lastTouch l p).1, .bool (lastTouch l p).2]) ∧ Gw w w' := by
  have hbd := lastTo_bd (fun x : (Int × Int × Int × Int × Int × Int) => x.2.1 == p) l l.length
  obtain ⟨q, hq⟩ : ∃ q, lastTo (fun x : (Int × Int × Int × Int × Int × Int) => x.2.1 == p) l l.length = q := ⟨_, rfl⟩
  rw [hq] at hbd
  have Hq : Hid (lastTo (fun x : (Int × Int × Int × Int × Int × Int) => x.2.1 == p) l l.length = q) := hq
  clear hq
  go_enter Try.func18, Try.ntmps18
  go_wp2_with (first | (go_at_call 52; refine (i_areEdits _ _ _ _ hl hA).mono ?_; rintro e w' (⟨hp, rfl, hb⟩ | ⟨hp, rfl, hb⟩) <;> (have hc := hb.cells; have hf := hb.frozens; have hz := hb.size; (try simp at hz); (try have hz0 : w.heap.size < w'.heap.size := (by omega)); (try have hz1 : w.heap.size + 1 < w'.heap.size := (by omega)); (try have hz2 : w.heap.size + 2 < w'.heap.size := (by omega)); (try have hz3 : w.heap.size + 3 < w'.heap.size := (by omega)); (try have hz4 : w.heap.size + 4 < w'.heap.size := (by omega)); (try have hz5 : w.heap.size + 5 < w'.heap.size := (by omega)); have hA1 := hA.gw hb)) | (go_at_call 47; refine (i_within _ _ _ _).mono ?_; rintro e w' (⟨hp, rfl, rfl⟩ | ⟨hp, rfl, rfl⟩)))
  all_goals first
    | (go_ret2
       exact ⟨ret_ib (f := lastTouch l p) (by unfold lastTouch; rw [Hq.out]; rw [if_neg (fun h => by first | exact absurd h.1.1 (by assumption) | (have := h.1.2; have := h.2; omega))]), by (repeat (first | with_reducible exact Gw.refl _ | with_reducible assumption | ((with_reducible refine Gw.set ?_ ?_ _); rotate_left; (focus (first | (simp; done) | (simp; omega) | omega))) | with_reducible refine Gw.alloc ?_ _ | with_reducible refine Gw.drew ?_ | with_reducible refine Gw.drewN ?_ _ | (refine Gw.trans ?_ (by with_reducible assumption))))⟩)
    | skip
  have HE : Hid (EditsP l) := by assumption
  go_loop [6] (fun i => ∃ k : Nat, i = .int .i64 ((k : Int) - 1) ∧ k ≤ l.length ∧ Hid (lastTo (fun x : (Int × Int × Int × Int × Int × Int) => x.2.1 == p) l k = q)) (fun i => (intOf i + 1).toNat)
  case atStart => exact ⟨l.length, by go_num, Nat.le_refl _, Hq⟩
  case round =>
    obtain ⟨k, rfl, hk, hq⟩ := hrel
    by_cases hlt : 0 < k
    · obtain ⟨m, rfl⟩ : ∃ m, k = m + 1 := ⟨k - 1, by omega⟩
      have em : (((m + 1 : Nat) : Int) - 1) = (m : Int) := by omega
      rw [em]
      obtain ⟨x, hx⟩ := get_of_lt (l := l) (k := m) (by omega)
      obtain ⟨b, off, rfl, hb, c0, c1, c2, c3, c4, c5⟩ := hA1.get6 hx
      have Hx : Hid (l[m]? = some x) := hx
      clear hx em
      by_cases hC : x.2.1 = p
      · have hb0 : (x.2.1 == p) = true := by simp [hC]
        have hn' : Hid ((m : Int) = q) := by unfold Hid; rw [← hq.out, lastTo_yes Hx.out hb0]
        have HC : Hid (x.2.1 = p) := hC
        clear hC
        go_wp2_with fail
        go_ret2
        exact ⟨ret_ib (f := lastTouch l p) (by unfold lastTouch; rw [Hq.out, ← hn'.out, if_pos ⟨⟨HE.out, by omega⟩, by omega⟩]), by (repeat (first | with_reducible exact Gw.refl _ | with_reducible assumption | ((with_reducible refine Gw.set ?_ ?_ _); rotate_left; (focus (first | (simp; done) | (simp; omega) | omega))) | with_reducible refine Gw.alloc ?_ _ | with_reducible refine Gw.drew ?_ | with_reducible refine Gw.drewN ?_ _ | (refine Gw.trans ?_ (by with_reducible assumption))))⟩
      · have hb0 : (x.2.1 == p) = false := by simp [hC]
        have hn' : Hid (lastTo (fun x : (Int × Int × Int × Int × Int × Int) => x.2.1 == p) l m = q) := by unfold Hid; rw [← hq.out, lastTo_no Hx.out hb0]
        have HC : Hid (¬x.2.1 = p) := hC
        clear hC
        go_wp2_with fail
        go_round
        case rel => exact ⟨m, by go_num, by omega, hn'⟩
        case measure => simp [intOf]
    · obtain rfl : k = 0 := by omega
      have hn' : Hid (q = -1) := hq.out.symm
      go_wp2_with fail
      go_ret2
      exact ⟨ret_ib (f := lastTouch l p) (by unfold lastTouch; rw [Hq.out, if_neg (fun h => by have := h.2; have := hn'.out; omega)]), by (repeat (first | with_reducible exact Gw.refl _ | with_reducible assumption | ((with_reducible refine Gw.set ?_ ?_ _); rotate_left; (focus (first | (simp; done) | (simp; omega) | omega))) | with_reducible refine Gw.alloc ?_ _ | with_reducible refine Gw.drew ?_ | with_reducible refine Gw.drewN ?_ _ | (refine Gw.trans ?_ (by with_reducible assumption))))⟩

end Go.Proofs.Ytdcdgghobjhbhaa
