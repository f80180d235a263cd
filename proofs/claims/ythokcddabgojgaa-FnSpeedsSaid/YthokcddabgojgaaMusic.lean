/-
  Music: measures, counts, times. The plain functions, and the contracts of those that compute them.
-/
import Derived.Test.YthokcddabgojgaaSpot
import Derived.Test.YthokcddabgojgaaList
namespace Go.Proofs.Ythokcddabgojgaa
open Go.RowKit

abbrev MeasP (c t : Int) : Prop := (1 ≤ c ∧ c ≤ 12) ∧ 40 ≤ t ∧ t ≤ 220
def MusicP (l : List (Int × Int)) : Prop := (∀ x ∈ l, MeasP x.1 x.2) ∧ 1 ≤ l.length ∧ l.length ≤ 40

/-- The number of all counts. -/
def sumC : List (Int × Int) → Int
  | [] => 0
  | x :: l => x.1 + sumC l
theorem sumC_snoc (l : List (Int × Int)) (x : Int × Int) : sumC (l ++ [x]) = sumC l + x.1 := by
  induction l with
  | nil => simp [sumC]
  | cons y l ih => simp only [List.cons_append, sumC, ih]; omega
theorem sumC_bd (l : List (Int × Int)) (h : ∀ x ∈ l, MeasP x.1 x.2) : l.length ≤ sumC l ∧ sumC l ≤ 12 * l.length := by
  induction l with
  | nil => simp [sumC]
  | cons y l ih =>
    have h1 := h y (List.mem_cons_self ..)
    have h2 := ih (fun x hx => h x (List.mem_cons_of_mem _ hx))
    simp only [sumC, List.length_cons]
    omega
theorem drop_of {α : Type} {l : List α} {k : Nat} {x : α} (h : l[k]? = some x) : l.drop k = x :: l.drop (k + 1) := by
  obtain ⟨hk, rfl⟩ := List.getElem?_eq_some_iff.1 h
  exact List.drop_eq_getElem_cons hk

/-- The time at which a count begins. -/
def timeF : List (Int × Int) → Int → Int
  | [], _ => 0
  | x :: l, c => if c < x.1 then 60000 * c / x.2 else 60000 * x.1 / x.2 + timeF l (c - x.1)
theorem div_bd {a b m : Int} (ha : 0 ≤ a) (hm : a ≤ m) (hb : 40 ≤ b) : 0 ≤ a / b ∧ a / b ≤ m :=
  ⟨Int.ediv_nonneg ha (by omega), Int.le_trans (Int.ediv_le_self _ ha) hm⟩
theorem timeF_bd (l : List (Int × Int)) (h : ∀ x ∈ l, MeasP x.1 x.2) (c : Int) (hc : 0 ≤ c) : 0 ≤ timeF l c ∧ timeF l c ≤ 720000 * l.length := by
  induction l generalizing c with
  | nil => simp [timeF]
  | cons y l ih =>
    have h1 := h y (List.mem_cons_self ..)
    simp only [timeF, List.length_cons]
    split
    · have := div_bd (a := 60000 * c) (b := y.2) (m := 720000) (by omega) (by omega) (by omega)
      omega
    · have h2 := ih (fun x hx => h x (List.mem_cons_of_mem _ hx)) (c - y.1) (by omega)
      have := div_bd (a := 60000 * y.1) (b := y.2) (m := 720000) (by omega) (by omega) (by omega)
      omega

/-- The measure of a count, the count in it. -/
def idxF : List (Int × Int) → Int → Nat
  | [], _ => 0
  | x :: l, c => if c < x.1 then 0 else idxF l (c - x.1) + 1
def remF : List (Int × Int) → Int → Int
  | [], c => c
  | x :: l, c => if c < x.1 then c else remF l (c - x.1)
theorem idxF_lt (l : List (Int × Int)) (c : Int) (h0 : 0 ≤ c) (hc : c < sumC l) : idxF l c < l.length := by
  induction l generalizing c with
  | nil => simp [sumC] at hc; omega
  | cons y l ih =>
    simp only [idxF, List.length_cons]
    split
    · omega
    · have := ih (c - y.1) (by omega) (by simp only [sumC] at hc; omega)
      omega

theorem s_muMeasure (c t : Int) (w : World) : Calls Try.prog 73 #[.agg #[.int .i64 c, .int .i64 t]] w (Tells (MeasP c t) w) := by
  go_enter Try.func73, Try.ntmps73
  go_wp2_with (first | (go_at_call 48; refine (s_l1In _ _ _ _).mono ?_; rintro e w' (⟨hp, rfl, rfl⟩ | ⟨hp, rfl, rfl⟩)))
  all_goals
    go_ret
    exact tells_of (by first | (simp; done) | (simp; omega) | omega) (by (repeat (first | with_reducible exact Gw.refl _ | with_reducible assumption | ((with_reducible refine Gw.set ?_ ?_ _); rotate_left; (focus (first | (simp; done) | (simp; omega) | omega))) | with_reducible refine Gw.alloc ?_ _ | with_reducible refine Gw.drew ?_ | with_reducible refine Gw.drewN ?_ _ | (refine Gw.trans ?_ (by with_reducible assumption)))))


set_option maxHeartbeats 400000 in
theorem s_muGood (A : Option Addr) (c : Nat) (l : List (Int × Int)) (w : World) (hl : l.length ≤ 1048576) (hA : Rd w A l) :
    Calls Try.prog 40 #[.slice A l.length c] w (Tells (MusicP l) w) := by
  go_enter Try.func40, Try.ntmps40
  go_wp2_with fail
  go_loopw [7] (fun i wr => ∃ k : Nat, i = .int .i64 k ∧ k ≤ l.length ∧ Hid (AllTo (fun x : Int × Int => MeasP x.1 x.2) l k) ∧ Gw w wr) (fun i _ => l.length - (intOf i).toNat)
  case atStart => exact ⟨0, by go_num, Nat.zero_le _, AllTo.zero, by (repeat (first | with_reducible exact Gw.refl _ | with_reducible assumption | ((with_reducible refine Gw.set ?_ ?_ _); rotate_left; (focus (first | (simp; done) | (simp; omega) | omega))) | with_reducible refine Gw.alloc ?_ _ | with_reducible refine Gw.drew ?_ | with_reducible refine Gw.drewN ?_ _ | (refine Gw.trans ?_ (by with_reducible assumption))))⟩
  case round =>
    obtain ⟨k, rfl, hk, hall, hgw⟩ := hrel
    by_cases hlt : k < l.length
    · obtain ⟨x, hx⟩ := get_of_lt hlt
      obtain ⟨b, off, rfl, hb, c0, c1⟩ := (hA.gw hgw).get2 hx
      have Hx : Hid (l[k]? = some x) := hx; clear hx
      go_wp2_with (first | (go_at_call 73; refine (s_muMeasure _ _ _).mono ?_; rintro e w' (⟨hp, rfl, hb⟩ | ⟨hp, rfl, hb⟩) <;> (have hc := hb.cells; have hf := hb.frozens; have hz := hb.size; (try simp at hz); (try have hz0 : w.heap.size < w'.heap.size := (by omega)); (try have hz1 : w.heap.size + 1 < w'.heap.size := (by omega)); (try have hz2 : w.heap.size + 2 < w'.heap.size := (by omega)); (try have hz3 : w.heap.size + 3 < w'.heap.size := (by omega)); (try have hz4 : w.heap.size + 4 < w'.heap.size := (by omega)); (try have hz5 : w.heap.size + 5 < w'.heap.size := (by omega)))))
      all_goals first
        | (go_roundw
           case rel => exact ⟨k + 1, by go_num, by omega, AllTo.succ hall.out Hx.out (by omega), by (repeat (first | with_reducible exact Gw.refl _ | with_reducible assumption | ((with_reducible refine Gw.set ?_ ?_ _); rotate_left; (focus (first | (simp; done) | (simp; omega) | omega))) | with_reducible refine Gw.alloc ?_ _ | with_reducible refine Gw.drew ?_ | with_reducible refine Gw.drewN ?_ _ | (refine Gw.trans ?_ (by with_reducible assumption))))⟩
           case measure => simp [intOf]; omega)
        | (go_ret
           exact .inr ⟨fun h => by have := h.1 x (mem_of_get Hx.out); omega, rfl, by (repeat (first | with_reducible exact Gw.refl _ | with_reducible assumption | ((with_reducible refine Gw.set ?_ ?_ _); rotate_left; (focus (first | (simp; done) | (simp; omega) | omega))) | with_reducible refine Gw.alloc ?_ _ | with_reducible refine Gw.drew ?_ | with_reducible refine Gw.drewN ?_ _ | (refine Gw.trans ?_ (by with_reducible assumption))))⟩)
    · have hA' := AllTo.all hall.out (by omega)
      have HA : Hid (∀ x ∈ l, MeasP x.1 x.2) := hA'
      clear hA'
      go_wp2_with (go_at_call 48; refine (s_l1In _ _ _ _).mono ?_; rintro e w' (⟨hp, rfl, rfl⟩ | ⟨hp, rfl, rfl⟩))
      all_goals
        go_ret
        exact tells_of (by have h := HA.out; first | (simp only [true_iff]; exact ⟨h, by omega, by omega⟩) | (simp only [Bool.false_eq_true, false_iff]; exact fun h' => by have := h'.2; omega)) (by (repeat (first | with_reducible exact Gw.refl _ | with_reducible assumption | ((with_reducible refine Gw.set ?_ ?_ _); rotate_left; (focus (first | (simp; done) | (simp; omega) | omega))) | with_reducible refine Gw.alloc ?_ _ | with_reducible refine Gw.drew ?_ | with_reducible refine Gw.drewN ?_ _ | (refine Gw.trans ?_ (by with_reducible assumption)))))

set_option maxHeartbeats 400000 in
theorem i_IsMusic (A : Option Addr) (c : Nat) (l : List (Int × Int)) (w : World) (hl : l.length ≤ 1048576) (hA : Rd w A l) :
    Calls Try.prog 61 #[.slice A l.length c] w (Tells (MusicP l) w) := by
  go_enter Try.func61, Try.ntmps61
  go_wp2_with fail
  go_loopw [7] (fun i wr => ∃ k : Nat, i = .int .i64 k ∧ k ≤ l.length ∧ Hid (AllTo (fun x : Int × Int => MeasP x.1 x.2) l k) ∧ Gw w wr) (fun i _ => l.length - (intOf i).toNat)
  case atStart => exact ⟨0, by go_num, Nat.zero_le _, AllTo.zero, by (repeat (first | with_reducible exact Gw.refl _ | with_reducible assumption | ((with_reducible refine Gw.set ?_ ?_ _); rotate_left; (focus (first | (simp; done) | (simp; omega) | omega))) | with_reducible refine Gw.alloc ?_ _ | with_reducible refine Gw.drew ?_ | with_reducible refine Gw.drewN ?_ _ | (refine Gw.trans ?_ (by with_reducible assumption))))⟩
  case round =>
    obtain ⟨k, rfl, hk, hall, hgw⟩ := hrel
    by_cases hlt : k < l.length
    · obtain ⟨x, hx⟩ := get_of_lt hlt
      obtain ⟨b, off, rfl, hb, c0, c1⟩ := (hA.gw hgw).get2 hx
      have Hx : Hid (l[k]? = some x) := hx; clear hx
      go_wp2_with (first | (go_at_call 44; refine (i_within _ _ _ _).mono ?_; rintro e w' (⟨hp, rfl, rfl⟩ | ⟨hp, rfl, rfl⟩)))
      all_goals first
        | (go_roundw
           case rel => exact ⟨k + 1, by go_num, by omega, AllTo.succ hall.out Hx.out (by omega), by (repeat (first | with_reducible exact Gw.refl _ | with_reducible assumption | ((with_reducible refine Gw.set ?_ ?_ _); rotate_left; (focus (first | (simp; done) | (simp; omega) | omega))) | with_reducible refine Gw.alloc ?_ _ | with_reducible refine Gw.drew ?_ | with_reducible refine Gw.drewN ?_ _ | (refine Gw.trans ?_ (by with_reducible assumption))))⟩
           case measure => simp [intOf]; omega)
        | (go_ret
           exact .inr ⟨fun h => by have := h.1 x (mem_of_get Hx.out); omega, rfl, by (repeat (first | with_reducible exact Gw.refl _ | with_reducible assumption | ((with_reducible refine Gw.set ?_ ?_ _); rotate_left; (focus (first | (simp; done) | (simp; omega) | omega))) | with_reducible refine Gw.alloc ?_ _ | with_reducible refine Gw.drew ?_ | with_reducible refine Gw.drewN ?_ _ | (refine Gw.trans ?_ (by with_reducible assumption))))⟩)
    · have hA' := AllTo.all hall.out (by omega)
      have HA : Hid (∀ x ∈ l, MeasP x.1 x.2) := hA'
      clear hA'
      go_wp2_with (go_at_call 44; refine (i_within _ _ _ _).mono ?_; rintro e w' (⟨hp, rfl, rfl⟩ | ⟨hp, rfl, rfl⟩))
      all_goals
        go_ret
        exact tells_of (by have h := HA.out; first | (simp only [true_iff]; exact ⟨h, by omega, by omega⟩) | (simp only [Bool.false_eq_true, false_iff]; exact fun h' => by have := h'.2; omega)) (by (repeat (first | with_reducible exact Gw.refl _ | with_reducible assumption | ((with_reducible refine Gw.set ?_ ?_ _); rotate_left; (focus (first | (simp; done) | (simp; omega) | omega))) | with_reducible refine Gw.alloc ?_ _ | with_reducible refine Gw.drew ?_ | with_reducible refine Gw.drewN ?_ _ | (refine Gw.trans ?_ (by with_reducible assumption)))))

set_option maxHeartbeats 400000 in
theorem s_muCounts (A : Option Addr) (c : Nat) (l : List (Int × Int)) (w : World) (hl : l.length ≤ 40) (hm : ∀ x ∈ l, MeasP x.1 x.2) (hA : Rd w A l) :
    Calls Try.prog 43 #[.slice A l.length c] w fun e w' => e = .returned (.int .i64 (sumC l)) ∧ Gw w w' := by
  have Hm : Hid (∀ x ∈ l, MeasP x.1 x.2) := hm; clear hm
  go_enter Try.func43, Try.ntmps43
  go_wp2_with fail
  go_loopw [3, 8] (fun s i wr => ∃ (k : Nat) (q : Int), i = .int .i64 k ∧ k ≤ l.length ∧ s = .int .i64 q ∧ 0 ≤ q ∧ q ≤ 12 * k ∧ Hid (q = sumC (l.take k)) ∧ Gw w wr) (fun _ i _ => l.length - (intOf i).toNat)
  case atStart => exact ⟨0, 0, by go_num, Nat.zero_le _, by go_num, by omega, by omega, rfl, by (repeat (first | with_reducible exact Gw.refl _ | with_reducible assumption | ((with_reducible refine Gw.set ?_ ?_ _); rotate_left; (focus (first | (simp; done) | (simp; omega) | omega))) | with_reducible refine Gw.alloc ?_ _ | with_reducible refine Gw.drew ?_ | with_reducible refine Gw.drewN ?_ _ | (refine Gw.trans ?_ (by with_reducible assumption))))⟩
  case round =>
    obtain ⟨k, q, rfl, hk, rfl, hq1, hq2, hs, hgw⟩ := hrel
    by_cases hlt : k < l.length
    · obtain ⟨x, hx⟩ := get_of_lt hlt
      obtain ⟨b, off, rfl, hb, c0, c1⟩ := (hA.gw hgw).get2 hx
      have hx1 := Hm.out x (mem_of_get hx)
      have Hx : Hid (q + x.1 = sumC (l.take (k + 1))) := by unfold Hid; rw [take_succ_of hx, sumC_snoc, ← hs.out]
      clear hx
      go_wp2
      go_roundw
      case rel => exact ⟨k + 1, q + x.1, by go_num, by omega, rfl, by omega, by omega, Hx, by (repeat (first | with_reducible exact Gw.refl _ | with_reducible assumption | ((with_reducible refine Gw.set ?_ ?_ _); rotate_left; (focus (first | (simp; done) | (simp; omega) | omega))) | with_reducible refine Gw.alloc ?_ _ | with_reducible refine Gw.drew ?_ | with_reducible refine Gw.drewN ?_ _ | (refine Gw.trans ?_ (by with_reducible assumption))))⟩
      case measure => simp [intOf]; omega
    · have hfin : Hid (sumC l = q) := by unfold Hid; rw [hs.out, List.take_of_length_le (by omega)]
      go_wp2
      go_ret
      exact ⟨ret_int hfin.out.symm, by (repeat (first | with_reducible exact Gw.refl _ | with_reducible assumption | ((with_reducible refine Gw.set ?_ ?_ _); rotate_left; (focus (first | (simp; done) | (simp; omega) | omega))) | with_reducible refine Gw.alloc ?_ _ | with_reducible refine Gw.drew ?_ | with_reducible refine Gw.drewN ?_ _ | (refine Gw.trans ?_ (by with_reducible assumption))))⟩

set_option maxHeartbeats 400000 in
theorem i_countsOf (A : Option Addr) (c : Nat) (l : List (Int × Int)) (w : World) (hl : l.length ≤ 40) (hm : ∀ x ∈ l, MeasP x.1 x.2) (hA : Rd w A l) :
    Calls Try.prog 62 #[.slice A l.length c] w fun e w' => e = .returned (.int .i64 (sumC l)) ∧ Gw w w' := by
  have Hm : Hid (∀ x ∈ l, MeasP x.1 x.2) := hm; clear hm
  go_enter Try.func62, Try.ntmps62
  go_wp2_with fail
  go_loopw [3, 8] (fun s i wr => ∃ (k : Nat) (q : Int), i = .int .i64 k ∧ k ≤ l.length ∧ s = .int .i64 q ∧ 0 ≤ q ∧ q ≤ 12 * k ∧ Hid (q = sumC (l.take k)) ∧ Gw w wr) (fun _ i _ => l.length - (intOf i).toNat)
  case atStart => exact ⟨0, 0, by go_num, Nat.zero_le _, by go_num, by omega, by omega, rfl, by (repeat (first | with_reducible exact Gw.refl _ | with_reducible assumption | ((with_reducible refine Gw.set ?_ ?_ _); rotate_left; (focus (first | (simp; done) | (simp; omega) | omega))) | with_reducible refine Gw.alloc ?_ _ | with_reducible refine Gw.drew ?_ | with_reducible refine Gw.drewN ?_ _ | (refine Gw.trans ?_ (by with_reducible assumption))))⟩
  case round =>
    obtain ⟨k, q, rfl, hk, rfl, hq1, hq2, hs, hgw⟩ := hrel
    by_cases hlt : k < l.length
    · obtain ⟨x, hx⟩ := get_of_lt hlt
      obtain ⟨b, off, rfl, hb, c0, c1⟩ := (hA.gw hgw).get2 hx
      have hx1 := Hm.out x (mem_of_get hx)
      have Hx : Hid (q + x.1 = sumC (l.take (k + 1))) := by unfold Hid; rw [take_succ_of hx, sumC_snoc, ← hs.out]
      clear hx
      go_wp2
      go_roundw
      case rel => exact ⟨k + 1, q + x.1, by go_num, by omega, rfl, by omega, by omega, Hx, by (repeat (first | with_reducible exact Gw.refl _ | with_reducible assumption | ((with_reducible refine Gw.set ?_ ?_ _); rotate_left; (focus (first | (simp; done) | (simp; omega) | omega))) | with_reducible refine Gw.alloc ?_ _ | with_reducible refine Gw.drew ?_ | with_reducible refine Gw.drewN ?_ _ | (refine Gw.trans ?_ (by with_reducible assumption))))⟩
      case measure => simp [intOf]; omega
    · have hfin : Hid (sumC l = q) := by unfold Hid; rw [hs.out, List.take_of_length_le (by omega)]
      go_wp2
      go_ret
      exact ⟨ret_int hfin.out.symm, by (repeat (first | with_reducible exact Gw.refl _ | with_reducible assumption | ((with_reducible refine Gw.set ?_ ?_ _); rotate_left; (focus (first | (simp; done) | (simp; omega) | omega))) | with_reducible refine Gw.alloc ?_ _ | with_reducible refine Gw.drew ?_ | with_reducible refine Gw.drewN ?_ _ | (refine Gw.trans ?_ (by with_reducible assumption))))⟩

theorem s_muLasts (c t : Int) (w : World) (hc : 0 ≤ c ∧ c ≤ 1000) (ht : 40 ≤ t ∧ t ≤ 220) :
    Calls Try.prog 77 #[.int .i64 c, .int .i64 t] w fun e w' => e = .returned (.int .i64 (60000 * c / t)) ∧ w = w' := by
  go_enter Try.func77, Try.ntmps77
  go_wp2
  go_ret
  exact ⟨rfl, rfl⟩

set_option maxHeartbeats 1000000 in
theorem s_muTime (A : Option Addr) (c : Nat) (l : List (Int × Int)) (m : Int) (w : World) (hl : l.length ≤ 40) (hm : ∀ x ∈ l, MeasP x.1 x.2) (hm0 : 0 ≤ m ∧ m ≤ 1000) (hA : Rd w A l) :
    Calls Try.prog 60 #[.slice A l.length c, .int .i64 m] w fun e w' => e = .returned (.int .i64 (timeF l m)) ∧ Gw w w' := by
  have Hm : Hid (∀ x ∈ l, MeasP x.1 x.2) := hm; clear hm
  go_enter Try.func60, Try.ntmps60
  go_wp2_with fail
  go_loopw [1, 5, 10] (fun m' s i wr => ∃ (k : Nat) (q p : Int), i = .int .i64 k ∧ k ≤ l.length ∧ s = .int .i64 q ∧ m' = .int .i64 p ∧ 0 ≤ p ∧ p ≤ 1000 ∧ 0 ≤ q ∧ q ≤ 720000 * k ∧ Hid (q + timeF (l.drop k) p = timeF l m) ∧ Gw w wr) (fun _ _ i _ => l.length - (intOf i).toNat)
  case atStart => exact ⟨0, 0, m, by go_num, Nat.zero_le _, by go_num, rfl, hm0.1, hm0.2, by omega, by omega, by unfold Hid; simp, by (repeat (first | with_reducible exact Gw.refl _ | with_reducible assumption | ((with_reducible refine Gw.set ?_ ?_ _); rotate_left; (focus (first | (simp; done) | (simp; omega) | omega))) | with_reducible refine Gw.alloc ?_ _ | with_reducible refine Gw.drew ?_ | with_reducible refine Gw.drewN ?_ _ | (refine Gw.trans ?_ (by with_reducible assumption))))⟩
  case round =>
    obtain ⟨k, q, p, rfl, hk, rfl, rfl, hp1, hp2, hq1, hq2, hs, hgw⟩ := hrel
    by_cases hlt : k < l.length
    · obtain ⟨x, hx⟩ := get_of_lt hlt
      obtain ⟨b, off, rfl, hb, c0, c1⟩ := (hA.gw hgw).get2 hx
      have hx1 := Hm.out x (mem_of_get hx)
      have hd := drop_of hx
      clear hx
      by_cases hc : p < x.1
      · have hfin : Hid (timeF l m = q + 60000 * p / x.2) := by unfold Hid; rw [← hs.out, hd, timeF, if_pos hc]
        clear hd
        have hb1 := div_bd (a := 60000 * p) (b := x.2) (m := 720000) (by omega) (by omega) (by omega)
        go_wp2_with (first | (go_at_call 77; refine (s_muLasts _ _ _ (by omega) (by omega)).mono ?_; rintro e w' ⟨rfl, rfl⟩))
        go_ret
        exact ⟨ret_int hfin.out.symm, by (repeat (first | with_reducible exact Gw.refl _ | with_reducible assumption | ((with_reducible refine Gw.set ?_ ?_ _); rotate_left; (focus (first | (simp; done) | (simp; omega) | omega))) | with_reducible refine Gw.alloc ?_ _ | with_reducible refine Gw.drew ?_ | with_reducible refine Gw.drewN ?_ _ | (refine Gw.trans ?_ (by with_reducible assumption))))⟩
      · have hs' : Hid (q + 60000 * x.1 / x.2 + timeF (l.drop (k + 1)) (p - x.1) = timeF l m) := by unfold Hid; rw [← hs.out, hd, timeF, if_neg hc]; omega
        clear hd
        have hb1 := div_bd (a := 60000 * x.1) (b := x.2) (m := 720000) (by omega) (by omega) (by omega)
        go_wp2_with (first | (go_at_call 77; refine (s_muLasts _ _ _ (by omega) (by omega)).mono ?_; rintro e w' ⟨rfl, rfl⟩))
        go_roundw
        case rel => exact ⟨k + 1, q + 60000 * x.1 / x.2, p - x.1, by go_num, by omega, rfl, rfl, by omega, by omega, by omega, by omega, hs', by (repeat (first | with_reducible exact Gw.refl _ | with_reducible assumption | ((with_reducible refine Gw.set ?_ ?_ _); rotate_left; (focus (first | (simp; done) | (simp; omega) | omega))) | with_reducible refine Gw.alloc ?_ _ | with_reducible refine Gw.drew ?_ | with_reducible refine Gw.drewN ?_ _ | (refine Gw.trans ?_ (by with_reducible assumption))))⟩
        case measure => simp [intOf]; omega
    · have hfin : Hid (timeF l m = q) := by unfold Hid; rw [← hs.out, List.drop_of_length_le (by omega), timeF]; omega
      go_wp2_with fail
      go_ret
      exact ⟨ret_int hfin.out.symm, by (repeat (first | with_reducible exact Gw.refl _ | with_reducible assumption | ((with_reducible refine Gw.set ?_ ?_ _); rotate_left; (focus (first | (simp; done) | (simp; omega) | omega))) | with_reducible refine Gw.alloc ?_ _ | with_reducible refine Gw.drew ?_ | with_reducible refine Gw.drewN ?_ _ | (refine Gw.trans ?_ (by with_reducible assumption))))⟩

set_option maxHeartbeats 1000000 in
theorem i_timeOf (A : Option Addr) (c : Nat) (l : List (Int × Int)) (m : Int) (w : World) (hl : l.length ≤ 40) (hm : ∀ x ∈ l, MeasP x.1 x.2) (hm0 : 0 ≤ m ∧ m ≤ 1000) (hA : Rd w A l) :
    Calls Try.prog 59 #[.slice A l.length c, .int .i64 m] w fun e w' => e = .returned (.int .i64 (timeF l m)) ∧ Gw w w' := by
  have Hm : Hid (∀ x ∈ l, MeasP x.1 x.2) := hm; clear hm
  go_enter Try.func59, Try.ntmps59
  go_wp2_with fail
  go_loopw [1, 5, 10] (fun m' s i wr => ∃ (k : Nat) (q p : Int), i = .int .i64 k ∧ k ≤ l.length ∧ s = .int .i64 q ∧ m' = .int .i64 p ∧ 0 ≤ p ∧ p ≤ 1000 ∧ 0 ≤ q ∧ q ≤ 720000 * k ∧ Hid (q + timeF (l.drop k) p = timeF l m) ∧ Gw w wr) (fun _ _ i _ => l.length - (intOf i).toNat)
  case atStart => exact ⟨0, 0, m, by go_num, Nat.zero_le _, by go_num, rfl, hm0.1, hm0.2, by omega, by omega, by unfold Hid; simp, by (repeat (first | with_reducible exact Gw.refl _ | with_reducible assumption | ((with_reducible refine Gw.set ?_ ?_ _); rotate_left; (focus (first | (simp; done) | (simp; omega) | omega))) | with_reducible refine Gw.alloc ?_ _ | with_reducible refine Gw.drew ?_ | with_reducible refine Gw.drewN ?_ _ | (refine Gw.trans ?_ (by with_reducible assumption))))⟩
  case round =>
    obtain ⟨k, q, p, rfl, hk, rfl, rfl, hp1, hp2, hq1, hq2, hs, hgw⟩ := hrel
    by_cases hlt : k < l.length
    · obtain ⟨x, hx⟩ := get_of_lt hlt
      obtain ⟨b, off, rfl, hb, c0, c1⟩ := (hA.gw hgw).get2 hx
      have hx1 := Hm.out x (mem_of_get hx)
      have hd := drop_of hx
      clear hx
      by_cases hc : p < x.1
      · have hfin : Hid (timeF l m = q + 60000 * p / x.2) := by unfold Hid; rw [← hs.out, hd, timeF, if_pos hc]
        clear hd
        have hb1 := div_bd (a := 60000 * p) (b := x.2) (m := 720000) (by omega) (by omega) (by omega)
        go_wp2_with (first | fail)
        go_ret
        exact ⟨ret_int hfin.out.symm, by (repeat (first | with_reducible exact Gw.refl _ | with_reducible assumption | ((with_reducible refine Gw.set ?_ ?_ _); rotate_left; (focus (first | (simp; done) | (simp; omega) | omega))) | with_reducible refine Gw.alloc ?_ _ | with_reducible refine Gw.drew ?_ | with_reducible refine Gw.drewN ?_ _ | (refine Gw.trans ?_ (by with_reducible assumption))))⟩
      · have hs' : Hid (q + 60000 * x.1 / x.2 + timeF (l.drop (k + 1)) (p - x.1) = timeF l m) := by unfold Hid; rw [← hs.out, hd, timeF, if_neg hc]; omega
        clear hd
        have hb1 := div_bd (a := 60000 * x.1) (b := x.2) (m := 720000) (by omega) (by omega) (by omega)
        go_wp2_with (first | fail)
        go_roundw
        case rel => exact ⟨k + 1, q + 60000 * x.1 / x.2, p - x.1, by go_num, by omega, rfl, rfl, by omega, by omega, by omega, by omega, hs', by (repeat (first | with_reducible exact Gw.refl _ | with_reducible assumption | ((with_reducible refine Gw.set ?_ ?_ _); rotate_left; (focus (first | (simp; done) | (simp; omega) | omega))) | with_reducible refine Gw.alloc ?_ _ | with_reducible refine Gw.drew ?_ | with_reducible refine Gw.drewN ?_ _ | (refine Gw.trans ?_ (by with_reducible assumption))))⟩
        case measure => simp [intOf]; omega
    · have hfin : Hid (timeF l m = q) := by unfold Hid; rw [← hs.out, List.drop_of_length_le (by omega), timeF]; omega
      go_wp2_with fail
      go_ret
      exact ⟨ret_int hfin.out.symm, by (repeat (first | with_reducible exact Gw.refl _ | with_reducible assumption | ((with_reducible refine Gw.set ?_ ?_ _); rotate_left; (focus (first | (simp; done) | (simp; omega) | omega))) | with_reducible refine Gw.alloc ?_ _ | with_reducible refine Gw.drew ?_ | with_reducible refine Gw.drewN ?_ _ | (refine Gw.trans ?_ (by with_reducible assumption))))⟩

end Go.Proofs.Ythokcddabgojgaa
