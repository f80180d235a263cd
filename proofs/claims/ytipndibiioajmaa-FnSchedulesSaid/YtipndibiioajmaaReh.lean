/-
  Rehearsals and booked ones: what is valid.
-/
import Derived.Test.YtipndibiioajmaaBase
import Derived.Test.YtipndibiioajmaaLaw
import Derived.Test.YtipndibiioajmaaTyRehearsal
import Derived.Test.YtipndibiioajmaaTyBooked
namespace Go.Proofs.Ytipndibiioajmaa
open Go.RowKit

abbrev ReP (a b : Int) : Prop := (1 ≤ a ∧ a ≤ 9) ∧ 1 ≤ b ∧ b ≤ 12
abbrev BkP (a b c d : Int) : Prop := (1 ≤ a ∧ a ≤ 9) ∧ (1 ≤ b ∧ b ≤ 9) ∧ 0 ≤ c ∧ c < d ∧ d ≤ 168
abbrev ClashP (a b c d m n p q : Int) : Prop := (a = m ∨ b = n) ∧ c < q ∧ p < d
abbrev ColP (a b c d m n p q : Int) : Prop := (a = m ∨ b = n) ∧ c < d ∧ c < q ∧ p < d ∧ p < q


set_option maxHeartbeats 1000000 in
theorem s_reGood (A : Option Addr) (c : Nat) (l : List (Int × Int)) (w : World) (hl : l.length ≤ 1048576) (hA : Rd w A l) :
    Calls Try.prog 39 #[.slice A l.length c] w (Tells ((∀ x ∈ l, ReP x.1 x.2) ∧ l.length ≤ 6) w) := by
  go_enter Try.func39, Try.ntmps39
  go_wp2_with fail
  go_loopw [7] (fun i wr => ∃ k : Nat, i = .int .i64 k ∧ k ≤ l.length ∧ Hid (AllTo (fun x : (Int × Int) => ReP x.1 x.2) l k) ∧ Gw w wr) (fun i _ => l.length - (intOf i).toNat)
  case atStart => exact ⟨0, by go_num, Nat.zero_le _, AllTo.zero, by (repeat (first | with_reducible exact Gw.refl _ | with_reducible assumption | ((with_reducible refine Gw.set ?_ ?_ _); rotate_left; (focus (first | (simp; done) | (simp; omega) | omega))) | with_reducible refine Gw.alloc ?_ _ | with_reducible refine Gw.drew ?_ | with_reducible refine Gw.drewN ?_ _ | (refine Gw.trans ?_ (by with_reducible assumption))))⟩
  case round =>
    obtain ⟨k, rfl, hk, hall, hgw⟩ := hrel
    by_cases hlt : k < l.length
    · obtain ⟨x, hx⟩ := get_of_lt hlt
      obtain ⟨b, off, rfl, hb, c0, c1⟩ := (hA.gw hgw).get2 hx
      have Hx : Hid (l[k]? = some x) := hx; clear hx
      go_wp2_with (first | (go_at_call 66; refine (s_l1In _ _ _ _).mono ?_; rintro e w' (⟨hp, rfl, rfl⟩ | ⟨hp, rfl, rfl⟩)))
      all_goals first
        | (go_roundw
           case rel => exact ⟨k + 1, by go_num, by omega, AllTo.succ hall.out Hx.out (by omega), by (repeat (first | with_reducible exact Gw.refl _ | with_reducible assumption | ((with_reducible refine Gw.set ?_ ?_ _); rotate_left; (focus (first | (simp; done) | (simp; omega) | omega))) | with_reducible refine Gw.alloc ?_ _ | with_reducible refine Gw.drew ?_ | with_reducible refine Gw.drewN ?_ _ | (refine Gw.trans ?_ (by with_reducible assumption))))⟩
           case measure => simp [intOf]; omega)
        | (go_ret
           exact .inr ⟨fun h => by have := h.1 x (mem_of_get Hx.out); omega, rfl, by (repeat (first | with_reducible exact Gw.refl _ | with_reducible assumption | ((with_reducible refine Gw.set ?_ ?_ _); rotate_left; (focus (first | (simp; done) | (simp; omega) | omega))) | with_reducible refine Gw.alloc ?_ _ | with_reducible refine Gw.drew ?_ | with_reducible refine Gw.drewN ?_ _ | (refine Gw.trans ?_ (by with_reducible assumption))))⟩)
    · have hA' := AllTo.all hall.out (by omega)
      have HA : Hid (∀ x ∈ l, ReP x.1 x.2) := hA'
      clear hA'
      go_wp2_with fail
      all_goals
        go_ret
        exact tells_of (by have h := HA.out; first | (simp only [true_iff]; exact ⟨h, by omega⟩) | (simp only [Bool.false_eq_true, false_iff]; exact fun h' => by have := h'.2; omega) | (simp only [decide_eq_true_eq]; exact ⟨fun h' => ⟨h, by omega⟩, fun h' => by have := h'.2; omega⟩)) (by (repeat (first | with_reducible exact Gw.refl _ | with_reducible assumption | ((with_reducible refine Gw.set ?_ ?_ _); rotate_left; (focus (first | (simp; done) | (simp; omega) | omega))) | with_reducible refine Gw.alloc ?_ _ | with_reducible refine Gw.drew ?_ | with_reducible refine Gw.drewN ?_ _ | (refine Gw.trans ?_ (by with_reducible assumption)))))

set_option maxHeartbeats 1000000 in
theorem i_AreRehearsals (A : Option Addr) (c : Nat) (l : List (Int × Int)) (w : World) (hl : l.length ≤ 1048576) (hA : Rd w A l) :
    Calls Try.prog 27 #[.slice A l.length c] w (Tells ((∀ x ∈ l, ReP x.1 x.2) ∧ l.length ≤ 6) w) := by
  go_enter Try.func27, Try.ntmps27
  go_wp2_with fail
  go_loopw [7] (fun i wr => ∃ k : Nat, i = .int .i64 k ∧ k ≤ l.length ∧ Hid (AllTo (fun x : (Int × Int) => ReP x.1 x.2) l k) ∧ Gw w wr) (fun i _ => l.length - (intOf i).toNat)
  case atStart => exact ⟨0, by go_num, Nat.zero_le _, AllTo.zero, by (repeat (first | with_reducible exact Gw.refl _ | with_reducible assumption | ((with_reducible refine Gw.set ?_ ?_ _); rotate_left; (focus (first | (simp; done) | (simp; omega) | omega))) | with_reducible refine Gw.alloc ?_ _ | with_reducible refine Gw.drew ?_ | with_reducible refine Gw.drewN ?_ _ | (refine Gw.trans ?_ (by with_reducible assumption))))⟩
  case round =>
    obtain ⟨k, rfl, hk, hall, hgw⟩ := hrel
    by_cases hlt : k < l.length
    · obtain ⟨x, hx⟩ := get_of_lt hlt
      obtain ⟨b, off, rfl, hb, c0, c1⟩ := (hA.gw hgw).get2 hx
      have Hx : Hid (l[k]? = some x) := hx; clear hx
      go_wp2_with (first | (go_at_call 58; refine (i_within _ _ _ _).mono ?_; rintro e w' (⟨hp, rfl, rfl⟩ | ⟨hp, rfl, rfl⟩)))
      all_goals first
        | (go_roundw
           case rel => exact ⟨k + 1, by go_num, by omega, AllTo.succ hall.out Hx.out (by omega), by (repeat (first | with_reducible exact Gw.refl _ | with_reducible assumption | ((with_reducible refine Gw.set ?_ ?_ _); rotate_left; (focus (first | (simp; done) | (simp; omega) | omega))) | with_reducible refine Gw.alloc ?_ _ | with_reducible refine Gw.drew ?_ | with_reducible refine Gw.drewN ?_ _ | (refine Gw.trans ?_ (by with_reducible assumption))))⟩
           case measure => simp [intOf]; omega)
        | (go_ret
           exact .inr ⟨fun h => by have := h.1 x (mem_of_get Hx.out); omega, rfl, by (repeat (first | with_reducible exact Gw.refl _ | with_reducible assumption | ((with_reducible refine Gw.set ?_ ?_ _); rotate_left; (focus (first | (simp; done) | (simp; omega) | omega))) | with_reducible refine Gw.alloc ?_ _ | with_reducible refine Gw.drew ?_ | with_reducible refine Gw.drewN ?_ _ | (refine Gw.trans ?_ (by with_reducible assumption))))⟩)
    · have hA' := AllTo.all hall.out (by omega)
      have HA : Hid (∀ x ∈ l, ReP x.1 x.2) := hA'
      clear hA'
      go_wp2_with fail
      all_goals
        go_ret
        exact tells_of (by have h := HA.out; first | (simp only [true_iff]; exact ⟨h, by omega⟩) | (simp only [Bool.false_eq_true, false_iff]; exact fun h' => by have := h'.2; omega) | (simp only [decide_eq_true_eq]; exact ⟨fun h' => ⟨h, by omega⟩, fun h' => by have := h'.2; omega⟩)) (by (repeat (first | with_reducible exact Gw.refl _ | with_reducible assumption | ((with_reducible refine Gw.set ?_ ?_ _); rotate_left; (focus (first | (simp; done) | (simp; omega) | omega))) | with_reducible refine Gw.alloc ?_ _ | with_reducible refine Gw.drew ?_ | with_reducible refine Gw.drewN ?_ _ | (refine Gw.trans ?_ (by with_reducible assumption)))))

abbrev RehP (l : List (Int × Int)) : Prop := (∀ x ∈ l, ReP x.1 x.2) ∧ l.length ≤ 6
theorem s_AreRehearsals (A : Option Addr) (c : Nat) (l : List (Int × Int)) (w : World) (hl : l.length ≤ 1048576) (hA : Rd w A l) :
    Calls Try.prog 28 #[.slice A l.length c] w (Tells (RehP l) w) := by
  go_enter Try.func28, Try.ntmps28
  go_wp2_with (go_at_call 39; refine (s_reGood _ _ _ _ hl hA).mono ?_; rintro e w' (⟨hp, rfl, hb⟩ | ⟨hp, rfl, hb⟩))
  · go_ret
    exact .inl ⟨hp, rfl, hb⟩
  · go_ret
    exact .inr ⟨hp, rfl, hb⟩

theorem s_reClash (a b c d m n p q : Int) (w : World) : Calls Try.prog 76 #[.agg #[.int .i64 a, .int .i64 b, .int .i64 c, .int .i64 d], .agg #[.int .i64 m, .int .i64 n, .int .i64 p, .int .i64 q]] w (Tells (ClashP a b c d m n p q) w) := by
  go_enter Try.func76, Try.ntmps76
  go_wp2_with (first | fail)
  all_goals
    go_ret
    exact tells_of (by first | (simp; done) | (simp; omega) | omega) (by (repeat (first | with_reducible exact Gw.refl _ | with_reducible assumption | ((with_reducible refine Gw.set ?_ ?_ _); rotate_left; (focus (first | (simp; done) | (simp; omega) | omega))) | with_reducible refine Gw.alloc ?_ _ | with_reducible refine Gw.drew ?_ | with_reducible refine Gw.drewN ?_ _ | (refine Gw.trans ?_ (by with_reducible assumption)))))


theorem i_collide (a b c d m n p q : Int) (w : World) : Calls Try.prog 78 #[.agg #[.int .i64 a, .int .i64 b, .int .i64 c, .int .i64 d], .agg #[.int .i64 m, .int .i64 n, .int .i64 p, .int .i64 q]] w (Tells (ColP a b c d m n p q) w) := by
  go_enter Try.func78, Try.ntmps78
  go_wp2_with (first | fail)
  all_goals
    go_ret
    exact tells_of (by first | (simp; done) | (simp; omega) | omega) (by (repeat (first | with_reducible exact Gw.refl _ | with_reducible assumption | ((with_reducible refine Gw.set ?_ ?_ _); rotate_left; (focus (first | (simp; done) | (simp; omega) | omega))) | with_reducible refine Gw.alloc ?_ _ | with_reducible refine Gw.drew ?_ | with_reducible refine Gw.drewN ?_ _ | (refine Gw.trans ?_ (by with_reducible assumption)))))


/-- Booked ones that are valid: each by itself, no two of them in common. -/
def BookP (l : List (Int × Int × Int × Int)) : Prop := (∀ x ∈ l, BkP x.1 x.2.1 x.2.2.1 x.2.2.2) ∧ (∀ (i j : Nat) (x y : (Int × Int × Int × Int)), j < i → l[i]? = some x → l[j]? = some y → ¬(ClashP x.1 x.2.1 x.2.2.1 x.2.2.2 y.1 y.2.1 y.2.2.1 y.2.2.2)) ∧ l.length ≤ 6

set_option maxHeartbeats 4000000 in
theorem s_reBooked (A : Option Addr) (c : Nat) (l : List (Int × Int × Int × Int)) (w : World) (hl : l.length ≤ 1048576) (hA : Rd w A l) (hlc : l.length ≤ c) :
    Calls Try.prog 56 #[.slice A l.length c] w (Tells (BookP l) w) := by
  go_enter Try.func56, Try.ntmps56
  go_wp2_with fail
  go_loopw [9] (fun i wr => ∃ k : Nat, i = .int .i64 k ∧ k ≤ l.length ∧ Hid (AllTo (fun x : (Int × Int × Int × Int) => BkP x.1 x.2.1 x.2.2.1 x.2.2.2) l k) ∧ Hid (PairTo (fun x y : (Int × Int × Int × Int) => ¬(ClashP x.1 x.2.1 x.2.2.1 x.2.2.2 y.1 y.2.1 y.2.2.1 y.2.2.2)) l k) ∧ Gw w wr) (fun i _ => l.length - (intOf i).toNat)
  case atStart => exact ⟨0, by go_num, Nat.zero_le _, AllTo.zero, PairTo.zero, by (repeat (first | with_reducible exact Gw.refl _ | with_reducible assumption | ((with_reducible refine Gw.set ?_ ?_ _); rotate_left; (focus (first | (simp; done) | (simp; omega) | omega))) | with_reducible refine Gw.alloc ?_ _ | with_reducible refine Gw.drew ?_ | with_reducible refine Gw.drewN ?_ _ | (refine Gw.trans ?_ (by with_reducible assumption))))⟩
  case round =>
    obtain ⟨wo, rfl⟩ : ∃ wo : World, wo = wr := ⟨_, rfl⟩
    obtain ⟨k, rfl, hk, hall, hpair, hgw⟩ := hrel
    by_cases hlt : k < l.length
    · obtain ⟨x, hx⟩ := get_of_lt hlt
      have hAr := hA.gw hgw
      obtain ⟨b, off, rfl, hb, c0, c1, c2, c3⟩ := hAr.get4 hx
      have Hx : Hid (l[k]? = some x) := hx; clear hx
      have hk2 : k ≤ c := by omega
      go_wp2_with (first | (go_at_call 66; refine (s_l1In _ _ _ _).mono ?_; rintro e w' (⟨hp, rfl, rfl⟩ | ⟨hp, rfl, rfl⟩)) | (go_at_call 59; refine (s_wnPlace _ _).mono ?_; rintro e w' (⟨hp, rfl, rfl⟩ | ⟨hp, rfl, rfl⟩)) | (go_at_call 60; refine (s_wnHour _ _).mono ?_; rintro e w' (⟨hp, rfl, rfl⟩ | ⟨hp, rfl, rfl⟩)))
      all_goals first
        | (go_ret
           exact .inr ⟨fun h => by have := h.1 x (mem_of_get Hx.out); omega, rfl, by (repeat (first | with_reducible exact Gw.refl _ | with_reducible assumption | ((with_reducible refine Gw.set ?_ ?_ _); rotate_left; (focus (first | (simp; done) | (simp; omega) | omega))) | with_reducible refine Gw.alloc ?_ _ | with_reducible refine Gw.drew ?_ | with_reducible refine Gw.drewN ?_ _ | (refine Gw.trans ?_ (by with_reducible assumption))))⟩)
        | skip
      have Hok : Hid ((fun x : (Int × Int × Int × Int) => BkP x.1 x.2.1 x.2.2.1 x.2.2.2) x) := by unfold Hid; dsimp only; omega
      go_loopw [43] (fun i w2 => ∃ m : Nat, i = .int .i64 m ∧ m ≤ k ∧ Hid (AllTo (fun y : (Int × Int × Int × Int) => ¬(ClashP x.1 x.2.1 x.2.2.1 x.2.2.2 y.1 y.2.1 y.2.2.1 y.2.2.2)) l m) ∧ Gw (wo.alloc (.cells #[.int .i64 x.1, .int .i64 x.2.1, .int .i64 x.2.2.1, .int .i64 x.2.2.2] 88)) w2) (fun i _ => k - (intOf i).toNat)
      case atStart => exact ⟨0, by go_num, Nat.zero_le _, AllTo.zero, by (repeat (first | with_reducible exact Gw.refl _ | with_reducible assumption | ((with_reducible refine Gw.set ?_ ?_ _); rotate_left; (focus (first | (simp; done) | (simp; omega) | omega))) | with_reducible refine Gw.alloc ?_ _ | with_reducible refine Gw.drew ?_ | with_reducible refine Gw.drewN ?_ _ | (refine Gw.trans ?_ (by with_reducible assumption))))⟩
      case round =>
        obtain ⟨m, rfl, hm, hin, hgi⟩ := hrel
        have hci := hgi.cells
        have hzi := hgi.size
        (try simp at hzi)
        have hzi0 : wo.heap.size < wr.heap.size := by omega
        by_cases hlm : m < k
        · obtain ⟨y, hy⟩ := get_of_lt (l := l) (k := m) (by omega)
          obtain ⟨b', off', hbe, hb', d0, d1, d2, d3⟩ := hAr.get4 hy
          simp only [Option.some.injEq, Addr.mk.injEq, and_true] at hbe
          obtain ⟨rfl, rfl⟩ := hbe
          have Hy : Hid (l[m]? = some y) := hy; clear hy
          go_wp2_with (first | (go_at_call 76; refine (s_reClash _ _ _ _ _ _ _ _ _).mono ?_; rintro e w' (⟨hp, rfl, hb⟩ | ⟨hp, rfl, hb⟩) <;> (have hc := hb.cells; have hf := hb.frozens; have hz := hb.size; (try simp at hz); (try have hz0 : w.heap.size < w'.heap.size := (by omega)); (try have hz1 : w.heap.size + 1 < w'.heap.size := (by omega)); (try have hz2 : w.heap.size + 2 < w'.heap.size := (by omega)); (try have hz3 : w.heap.size + 3 < w'.heap.size := (by omega)); (try have hz4 : w.heap.size + 4 < w'.heap.size := (by omega)); (try have hz5 : w.heap.size + 5 < w'.heap.size := (by omega)))))
          all_goals first
            | (go_roundw
               case rel => exact ⟨m + 1, by go_num, by omega, AllTo.succ hin.out Hy.out (by assumption), by (repeat (first | with_reducible exact Gw.refl _ | with_reducible assumption | ((with_reducible refine Gw.set ?_ ?_ _); rotate_left; (focus (first | (simp; done) | (simp; omega) | omega))) | with_reducible refine Gw.alloc ?_ _ | with_reducible refine Gw.drew ?_ | with_reducible refine Gw.drewN ?_ _ | (refine Gw.trans ?_ (by with_reducible assumption))))⟩
               case measure => simp [intOf]; omega)
            | (go_ret
               exact .inr ⟨fun h => by have := h.2.1 k m x y (by omega) Hx.out Hy.out; contradiction, rfl, by (repeat (first | with_reducible exact Gw.refl _ | with_reducible assumption | ((with_reducible refine Gw.set ?_ ?_ _); rotate_left; (focus (first | (simp; done) | (simp; omega) | omega))) | with_reducible refine Gw.alloc ?_ _ | with_reducible refine Gw.drew ?_ | with_reducible refine Gw.drewN ?_ _ | (refine Gw.trans ?_ (by with_reducible assumption))))⟩)
        · obtain rfl : m = k := by omega
          go_wp2_with fail
          go_roundw
          case rel => exact ⟨m + 1, by go_num, by omega, AllTo.succ hall.out Hx.out Hok.out, PairTo.succ hpair.out Hx.out hin.out, by (repeat (first | with_reducible exact Gw.refl _ | with_reducible assumption | ((with_reducible refine Gw.set ?_ ?_ _); rotate_left; (focus (first | (simp; done) | (simp; omega) | omega))) | with_reducible refine Gw.alloc ?_ _ | with_reducible refine Gw.drew ?_ | with_reducible refine Gw.drewN ?_ _ | (refine Gw.trans ?_ (by with_reducible assumption))))⟩
          case measure => simp [intOf]; omega
    · have HA : Hid (∀ x ∈ l, BkP x.1 x.2.1 x.2.2.1 x.2.2.2) := AllTo.all hall.out (by omega)
      have HP : Hid (∀ (i j : Nat) (x y : (Int × Int × Int × Int)), j < i → l[i]? = some x → l[j]? = some y → ¬(ClashP x.1 x.2.1 x.2.2.1 x.2.2.2 y.1 y.2.1 y.2.2.1 y.2.2.2)) := PairTo.all hpair.out (by omega)
      go_wp2_with fail
      go_ret
      exact tells_of (by have h := HA.out; have h2 := HP.out; first | (simp only [true_iff]; exact ⟨h, h2, by omega⟩) | (simp only [Bool.false_eq_true, false_iff]; exact fun h' => by have := h'.2.2; omega) | (simp only [decide_eq_true_eq]; exact ⟨fun h' => ⟨h, h2, by omega⟩, fun h' => by have := h'.2.2; omega⟩)) (by (repeat (first | with_reducible exact Gw.refl _ | with_reducible assumption | ((with_reducible refine Gw.set ?_ ?_ _); rotate_left; (focus (first | (simp; done) | (simp; omega) | omega))) | with_reducible refine Gw.alloc ?_ _ | with_reducible refine Gw.drew ?_ | with_reducible refine Gw.drewN ?_ _ | (refine Gw.trans ?_ (by with_reducible assumption)))))

set_option maxHeartbeats 1000000 in
theorem i_collidesWith (a b c d : Int) (A : Option Addr) (n cap : Nat) (l : List (Int × Int × Int × Int)) (w : World) (hn : l.length = n) (hl : n ≤ 1048576) (hA : Rd w A l) :
    Calls Try.prog 64 #[.agg #[.int .i64 a, .int .i64 b, .int .i64 c, .int .i64 d], .slice A n cap] w (Tells (∃ x ∈ l, ColP a b c d x.1 x.2.1 x.2.2.1 x.2.2.2) w) := by
  have Hn : Hid (l.length = n) := hn
  clear hn
  go_enter Try.func64, Try.ntmps64
  go_wp2_with fail
  go_loopw [9] (fun i wr => ∃ k : Nat, i = .int .i64 k ∧ k ≤ n ∧ Hid (AllTo (fun x : (Int × Int × Int × Int) => ¬(ColP a b c d x.1 x.2.1 x.2.2.1 x.2.2.2)) l k) ∧ Gw (w.alloc (.cells #[.int .i64 a, .int .i64 b, .int .i64 c, .int .i64 d] 88)) wr) (fun i _ => n - (intOf i).toNat)
  case atStart => exact ⟨0, by go_num, Nat.zero_le _, AllTo.zero, by (repeat (first | with_reducible exact Gw.refl _ | with_reducible assumption | ((with_reducible refine Gw.set ?_ ?_ _); rotate_left; (focus (first | (simp; done) | (simp; omega) | omega))) | with_reducible refine Gw.alloc ?_ _ | with_reducible refine Gw.drew ?_ | with_reducible refine Gw.drewN ?_ _ | (refine Gw.trans ?_ (by with_reducible assumption))))⟩
  case round =>
    obtain ⟨k, rfl, hk, hall, hgw⟩ := hrel
    have hcr := hgw.cells
    have hzr := hgw.size
    (try simp at hzr)
    (try have hzr0 : w.heap.size < wr.heap.size := by omega)
    by_cases hlt : k < n
    · obtain ⟨x, hx⟩ := get_of_lt (l := l) (k := k) (by rw [Hn.out]; exact hlt)
      obtain ⟨b, off, rfl, hb, c0, c1, c2, c3⟩ := (hA.gw (Gw.trans (by (repeat (first | with_reducible exact Gw.refl _ | with_reducible assumption | ((with_reducible refine Gw.set ?_ ?_ _); rotate_left; (focus (first | (simp; done) | (simp; omega) | omega))) | with_reducible refine Gw.alloc ?_ _ | with_reducible refine Gw.drew ?_ | with_reducible refine Gw.drewN ?_ _ | (refine Gw.trans ?_ (by with_reducible assumption))))) hgw)).get4 hx
      have Hx : Hid (l[k]? = some x) := hx; clear hx
      go_wp2_with (first | (go_at_call 78; refine (i_collide _ _ _ _ _ _ _ _ _).mono ?_; rintro e w' (⟨hp, rfl, hb⟩ | ⟨hp, rfl, hb⟩) <;> (have hc := hb.cells; have hf := hb.frozens; have hz := hb.size; (try simp at hz); (try have hz0 : w.heap.size < w'.heap.size := (by omega)); (try have hz1 : w.heap.size + 1 < w'.heap.size := (by omega)); (try have hz2 : w.heap.size + 2 < w'.heap.size := (by omega)); (try have hz3 : w.heap.size + 3 < w'.heap.size := (by omega)); (try have hz4 : w.heap.size + 4 < w'.heap.size := (by omega)); (try have hz5 : w.heap.size + 5 < w'.heap.size := (by omega)))))
      all_goals first
        | (go_roundw
           case rel => exact ⟨k + 1, by go_num, by omega, AllTo.succ hall.out Hx.out (by assumption), by (repeat (first | with_reducible exact Gw.refl _ | with_reducible assumption | ((with_reducible refine Gw.set ?_ ?_ _); rotate_left; (focus (first | (simp; done) | (simp; omega) | omega))) | with_reducible refine Gw.alloc ?_ _ | with_reducible refine Gw.drew ?_ | with_reducible refine Gw.drewN ?_ _ | (refine Gw.trans ?_ (by with_reducible assumption))))⟩
           case measure => simp [intOf]; omega)
        | (go_ret
           exact .inl ⟨⟨x, mem_of_get Hx.out, by assumption⟩, rfl, by (repeat (first | with_reducible exact Gw.refl _ | with_reducible assumption | ((with_reducible refine Gw.set ?_ ?_ _); rotate_left; (focus (first | (simp; done) | (simp; omega) | omega))) | with_reducible refine Gw.alloc ?_ _ | with_reducible refine Gw.drew ?_ | with_reducible refine Gw.drewN ?_ _ | (refine Gw.trans ?_ (by with_reducible assumption))))⟩)
    · have HA : Hid (∀ x ∈ l, ¬(ColP a b c d x.1 x.2.1 x.2.2.1 x.2.2.2)) := AllTo.all hall.out (by rw [Hn.out]; omega)
      go_wp2_with fail
      go_ret
      exact .inr ⟨fun ⟨x, hx, hp⟩ => HA.out x hx hp, rfl, by (repeat (first | with_reducible exact Gw.refl _ | with_reducible assumption | ((with_reducible refine Gw.set ?_ ?_ _); rotate_left; (focus (first | (simp; done) | (simp; omega) | omega))) | with_reducible refine Gw.alloc ?_ _ | with_reducible refine Gw.drew ?_ | with_reducible refine Gw.drewN ?_ _ | (refine Gw.trans ?_ (by with_reducible assumption))))⟩

end Go.Proofs.Ytipndibiioajmaa
