/-
  Windows: what is valid.
-/
import Derived.Test.YtipndibiioajmaaBase
import Derived.Test.YtipndibiioajmaaLaw
import Derived.Test.YtipndibiioajmaaTell
import Derived.Test.YtipndibiioajmaaTyWindow
namespace Go.Proofs.Ytipndibiioajmaa
open Go.RowKit

abbrev WinP (a b c : Int) : Prop := (1 ≤ a ∧ a ≤ 9) ∧ 0 ≤ b ∧ b < c ∧ c ≤ 168
/-- x may stand behind y. -/
abbrev NextP (y x : (Int × Int × Int)) : Prop := ¬(x.1 < y.1 ∨ (x.1 = y.1 ∧ x.2.1 ≤ y.2.2))
def AdjTo {α : Type} (P : α → α → Prop) (l : List α) (k : Nat) : Prop := ∀ i x y, i + 1 < k → l[i]? = some y → l[i + 1]? = some x → P y x
theorem AdjTo.zero {α : Type} {P : α → α → Prop} {l : List α} : AdjTo P l 0 := fun _ _ _ h => absurd h (by omega)
theorem AdjTo.one {α : Type} {P : α → α → Prop} {l : List α} : AdjTo P l 1 := fun _ _ _ h => absurd h (by omega)
theorem AdjTo.succ {α : Type} {P : α → α → Prop} {l : List α} {j : Nat} {x y : α} (h : AdjTo P l (j + 1)) (hy : l[j]? = some y) (hx : l[j + 1]? = some x) (hp : P y x) : AdjTo P l (j + 1 + 1) := by
  intro i x' y' hi hy' hx'
  by_cases e : i = j
  · subst e; rw [hy] at hy'; rw [hx] at hx'; cases hy'; cases hx'; exact hp
  · exact h i x' y' (by omega) hy' hx'
theorem AdjTo.all {α : Type} {P : α → α → Prop} {l : List α} {k : Nat} (h : AdjTo P l k) (hk : l.length ≤ k) : ∀ i x y, l[i]? = some y → l[i + 1]? = some x → P y x :=
  fun i x y hy hx => h i x y (by have := (List.getElem?_eq_some_iff.1 hx).1; omega) hy hx
def WinsP (l : List (Int × Int × Int)) : Prop := (∀ x ∈ l, WinP x.1 x.2.1 x.2.2) ∧ (∀ i x y, l[i]? = some y → l[i + 1]? = some x → NextP y x) ∧ l.length ≤ 20

theorem i_isWindow (a b c : Int) (w : World) : Calls Try.prog 70 #[.agg #[.int .i64 a, .int .i64 b, .int .i64 c]] w (Tells (WinP a b c) w) := by
  go_enter Try.func70, Try.ntmps70
  go_wp2_with (first | (go_at_call 58; refine (i_within _ _ _ _).mono ?_; rintro e w' (⟨hp, rfl, rfl⟩ | ⟨hp, rfl, rfl⟩)))
  all_goals
    go_ret
    exact tells_of (by first | (simp; done) | (simp; omega) | omega) (by (repeat (first | with_reducible exact Gw.refl _ | with_reducible assumption | ((with_reducible refine Gw.set ?_ ?_ _); rotate_left; (focus (first | (simp; done) | (simp; omega) | omega))) | with_reducible refine Gw.alloc ?_ _ | with_reducible refine Gw.drew ?_ | with_reducible refine Gw.drewN ?_ _ | (refine Gw.trans ?_ (by with_reducible assumption)))))


theorem s_wnWindow (a b c : Int) (w : World) : Calls Try.prog 65 #[.agg #[.int .i64 a, .int .i64 b, .int .i64 c]] w (Tells (WinP a b c) w) := by
  go_enter Try.func65, Try.ntmps65
  go_wp2_with (first | (go_at_call 66; refine (s_l1In _ _ _ _).mono ?_; rintro e w' (⟨hp, rfl, rfl⟩ | ⟨hp, rfl, rfl⟩)) | (go_at_call 60; refine (s_wnHour _ _).mono ?_; rintro e w' (⟨hp, rfl, rfl⟩ | ⟨hp, rfl, rfl⟩)))
  all_goals
    go_ret
    exact tells_of (by first | (simp; done) | (simp; omega) | omega) (by (repeat (first | with_reducible exact Gw.refl _ | with_reducible assumption | ((with_reducible refine Gw.set ?_ ?_ _); rotate_left; (focus (first | (simp; done) | (simp; omega) | omega))) | with_reducible refine Gw.alloc ?_ _ | with_reducible refine Gw.drew ?_ | with_reducible refine Gw.drewN ?_ _ | (refine Gw.trans ?_ (by with_reducible assumption)))))


set_option maxHeartbeats 4000000 in
theorem s_wnGood (A : Option Addr) (c : Nat) (l : List (Int × Int × Int)) (w : World) (hl : l.length ≤ 1048576) (hA : Rd w A l) :
    Calls Try.prog 38 #[.slice A l.length c] w (Tells (WinsP l) w) := by
  go_enter Try.func38, Try.ntmps38
  go_wp2_with fail
  go_loopw [7] (fun i wr => ∃ k : Nat, i = .int .i64 k ∧ k ≤ l.length ∧ Hid (AllTo (fun x : (Int × Int × Int) => WinP x.1 x.2.1 x.2.2) l k) ∧ Hid (AdjTo NextP l k) ∧ Gw w wr) (fun i _ => l.length - (intOf i).toNat)
  case atStart => exact ⟨0, by go_num, Nat.zero_le _, AllTo.zero, AdjTo.zero, by (repeat (first | with_reducible exact Gw.refl _ | with_reducible assumption | ((with_reducible refine Gw.set ?_ ?_ _); rotate_left; (focus (first | (simp; done) | (simp; omega) | omega))) | with_reducible refine Gw.alloc ?_ _ | with_reducible refine Gw.drew ?_ | with_reducible refine Gw.drewN ?_ _ | (refine Gw.trans ?_ (by with_reducible assumption))))⟩
  case round =>
    obtain ⟨k, rfl, hk, hall, hadj, hgw⟩ := hrel
    by_cases hlt : k < l.length
    · obtain ⟨x, hx⟩ := get_of_lt hlt
      obtain ⟨x1, x2, x3⟩ := x
      have hAr := hA.gw hgw
      obtain ⟨b, off, rfl, hb, c0, c1, c2⟩ := hAr.get3 hx
      dsimp only at c0 c1 c2
      have Hx : Hid (l[k]? = some (x1, x2, x3)) := hx; clear hx
      go_wp2_with (first | (go_at_call 65; refine (s_wnWindow _ _ _ _).mono ?_; rintro e w' (⟨hp, rfl, hb⟩ | ⟨hp, rfl, hb⟩) <;> (have hc := hb.cells; have hf := hb.frozens; have hz := hb.size; (try simp at hz); (try have hz0 : w.heap.size < w'.heap.size := (by omega)); (try have hz1 : w.heap.size + 1 < w'.heap.size := (by omega)); (try have hz2 : w.heap.size + 2 < w'.heap.size := (by omega)); (try have hz3 : w.heap.size + 3 < w'.heap.size := (by omega)); (try have hz4 : w.heap.size + 4 < w'.heap.size := (by omega)); (try have hz5 : w.heap.size + 5 < w'.heap.size := (by omega)))))
      all_goals first
        | (go_ret
           exact .inr ⟨fun h => by have := h.1 _ (mem_of_get Hx.out); dsimp only at this; omega, rfl, by (repeat (first | with_reducible exact Gw.refl _ | with_reducible assumption | ((with_reducible refine Gw.set ?_ ?_ _); rotate_left; (focus (first | (simp; done) | (simp; omega) | omega))) | with_reducible refine Gw.alloc ?_ _ | with_reducible refine Gw.drew ?_ | with_reducible refine Gw.drewN ?_ _ | (refine Gw.trans ?_ (by with_reducible assumption))))⟩)
        | skip
      have hbb : b < w'.heap.size := by omega
      have hbw : wr.heap.size < w'.heap.size := by omega
      rcases Nat.eq_zero_or_pos k with rfl | hpos
      · have g0 : decide ((0 : Int) > 0) = false := by simp
        have g1 : decide (((0 : Nat) : Int) > 0) = false := by simp
        go_wp2_with ((with_reducible refine wp_region_gw (by kernel_rfl) (by kernel_rfl) ?_); have hcq := @GwOf.cell; (repeat (go_big_quiet_step (fail))); refine wpQuiet_nil ?_; clear hcq; rintro w' ⟨⟨w', hb⟩, rfl⟩; (try dsimp only); have hc := hb.cells; have hf := hb.frozens; have hz := hb.size; (try simp at hz); (try have hz0 : w.heap.size < w'.heap.size := (by omega)); (try have hz1 : w.heap.size + 1 < w'.heap.size := (by omega)); (try have hz2 : w.heap.size + 2 < w'.heap.size := (by omega)); (try have hz3 : w.heap.size + 3 < w'.heap.size := (by omega)); (try have hz4 : w.heap.size + 4 < w'.heap.size := (by omega)); (try have hz5 : w.heap.size + 5 < w'.heap.size := (by omega)))
        go_roundw
        case rel => exact ⟨0 + 1, by go_num, by omega, AllTo.succ hall.out Hx.out (by dsimp only; omega), AdjTo.one, by (repeat (first | with_reducible exact Gw.refl _ | with_reducible assumption | ((with_reducible refine Gw.set ?_ ?_ _); rotate_left; (focus (first | (simp; done) | (simp; omega) | omega))) | with_reducible refine Gw.alloc ?_ _ | with_reducible refine Gw.drew ?_ | with_reducible refine Gw.drewN ?_ _ | (refine Gw.trans ?_ (by with_reducible assumption))))⟩
        case measure => simp [intOf]; omega
      · obtain ⟨j, rfl⟩ : ∃ j, k = j + 1 := ⟨k - 1, by omega⟩
        obtain ⟨y, hy⟩ := get_of_lt (l := l) (k := j) (by omega)
        obtain ⟨y1, y2, y3⟩ := y
        obtain ⟨b', off', hbe, hb', d0, d1, d2⟩ := hAr.get3 hy
        simp only [Option.some.injEq, Addr.mk.injEq, and_true] at hbe
        obtain ⟨rfl, rfl⟩ := hbe
        dsimp only at d0 d1 d2
        have Hy : Hid (l[j]? = some (y1, y2, y3)) := hy; clear hy
        have g1 : decide (((j + 1 : Nat) : Int) > 0) = true := by (first | (simp; done) | (simp; omega))
        have hj : IntKind.i64.wrap (((j + 1 : Nat) : Int) - 1) = (j : Int) := by rw [IntWalk.i64_in _ (by omega)]; omega
        have hj2 : IntKind.i64.wrap ((j : Int) + 1 - 1) = (j : Int) := by rw [IntWalk.i64_in _ (by omega)]; omega
        by_cases h1 : x1 < y1
        · have t1 : decide (x1 < y1) = true := by simp [h1]
          have t2 : decide (y1 > x1) = true := by simp [h1]
          go_wp2_with ((with_reducible refine wp_region_gw (by kernel_rfl) (by kernel_rfl) ?_); have hcq := @GwOf.cell; (repeat (go_big_quiet_step (fail))); refine wpQuiet_nil ?_; clear hcq; rintro w' ⟨⟨w', hb⟩, rfl⟩; (try dsimp only); have hc := hb.cells; have hf := hb.frozens; have hz := hb.size; (try simp at hz); (try have hz0 : w.heap.size < w'.heap.size := (by omega)); (try have hz1 : w.heap.size + 1 < w'.heap.size := (by omega)); (try have hz2 : w.heap.size + 2 < w'.heap.size := (by omega)); (try have hz3 : w.heap.size + 3 < w'.heap.size := (by omega)); (try have hz4 : w.heap.size + 4 < w'.heap.size := (by omega)); (try have hz5 : w.heap.size + 5 < w'.heap.size := (by omega)))
          go_ret
          exact .inr ⟨fun h => h.2.1 j (x1, x2, x3) (y1, y2, y3) Hy.out Hx.out (by simp only; omega), rfl, by (repeat (first | with_reducible exact Gw.refl _ | with_reducible assumption | ((with_reducible refine Gw.set ?_ ?_ _); rotate_left; (focus (first | (simp; done) | (simp; omega) | omega))) | with_reducible refine Gw.alloc ?_ _ | with_reducible refine Gw.drew ?_ | with_reducible refine Gw.drewN ?_ _ | (refine Gw.trans ?_ (by with_reducible assumption))))⟩
        · have t1 : decide (x1 < y1) = false := by simp; omega
          have t2 : decide (y1 > x1) = false := by simp; omega
          by_cases h2 : x1 = y1
          · have e1 : (x1 == y1) = true := by simp [h2]
            have e2 : (y1 == x1) = true := by simp [h2]
            by_cases h3 : x2 ≤ y3
            · have t3 : decide (x2 ≤ y3) = true := by simp [h3]
              have t4 : decide (y3 ≥ x2) = true := by simp [h3]
              go_wp2_with ((with_reducible refine wp_region_gw (by kernel_rfl) (by kernel_rfl) ?_); have hcq := @GwOf.cell; (repeat (go_big_quiet_step (fail))); refine wpQuiet_nil ?_; clear hcq; rintro w' ⟨⟨w', hb⟩, rfl⟩; (try dsimp only); have hc := hb.cells; have hf := hb.frozens; have hz := hb.size; (try simp at hz); (try have hz0 : w.heap.size < w'.heap.size := (by omega)); (try have hz1 : w.heap.size + 1 < w'.heap.size := (by omega)); (try have hz2 : w.heap.size + 2 < w'.heap.size := (by omega)); (try have hz3 : w.heap.size + 3 < w'.heap.size := (by omega)); (try have hz4 : w.heap.size + 4 < w'.heap.size := (by omega)); (try have hz5 : w.heap.size + 5 < w'.heap.size := (by omega)))
              go_ret
              exact .inr ⟨fun h => h.2.1 j (x1, x2, x3) (y1, y2, y3) Hy.out Hx.out (by simp only; omega), rfl, by (repeat (first | with_reducible exact Gw.refl _ | with_reducible assumption | ((with_reducible refine Gw.set ?_ ?_ _); rotate_left; (focus (first | (simp; done) | (simp; omega) | omega))) | with_reducible refine Gw.alloc ?_ _ | with_reducible refine Gw.drew ?_ | with_reducible refine Gw.drewN ?_ _ | (refine Gw.trans ?_ (by with_reducible assumption))))⟩
            · have t3 : decide (x2 ≤ y3) = false := by simp; omega
              have t4 : decide (y3 ≥ x2) = false := by simp; omega
              go_wp2_with ((with_reducible refine wp_region_gw (by kernel_rfl) (by kernel_rfl) ?_); have hcq := @GwOf.cell; (repeat (go_big_quiet_step (fail))); refine wpQuiet_nil ?_; clear hcq; rintro w' ⟨⟨w', hb⟩, rfl⟩; (try dsimp only); have hc := hb.cells; have hf := hb.frozens; have hz := hb.size; (try simp at hz); (try have hz0 : w.heap.size < w'.heap.size := (by omega)); (try have hz1 : w.heap.size + 1 < w'.heap.size := (by omega)); (try have hz2 : w.heap.size + 2 < w'.heap.size := (by omega)); (try have hz3 : w.heap.size + 3 < w'.heap.size := (by omega)); (try have hz4 : w.heap.size + 4 < w'.heap.size := (by omega)); (try have hz5 : w.heap.size + 5 < w'.heap.size := (by omega)))
              go_roundw
              case rel => exact ⟨j + 1 + 1, by go_num, by omega, AllTo.succ hall.out Hx.out (by dsimp only; omega), AdjTo.succ hadj.out Hy.out Hx.out (by unfold NextP; dsimp only; omega), by (repeat (first | with_reducible exact Gw.refl _ | with_reducible assumption | ((with_reducible refine Gw.set ?_ ?_ _); rotate_left; (focus (first | (simp; done) | (simp; omega) | omega))) | with_reducible refine Gw.alloc ?_ _ | with_reducible refine Gw.drew ?_ | with_reducible refine Gw.drewN ?_ _ | (refine Gw.trans ?_ (by with_reducible assumption))))⟩
              case measure => simp [intOf]; omega
          · have e1 : (x1 == y1) = false := by simp [h2]
            have e2 : (y1 == x1) = false := by simp; exact fun h => h2 h.symm
            go_wp2_with ((with_reducible refine wp_region_gw (by kernel_rfl) (by kernel_rfl) ?_); have hcq := @GwOf.cell; (repeat (go_big_quiet_step (fail))); refine wpQuiet_nil ?_; clear hcq; rintro w' ⟨⟨w', hb⟩, rfl⟩; (try dsimp only); have hc := hb.cells; have hf := hb.frozens; have hz := hb.size; (try simp at hz); (try have hz0 : w.heap.size < w'.heap.size := (by omega)); (try have hz1 : w.heap.size + 1 < w'.heap.size := (by omega)); (try have hz2 : w.heap.size + 2 < w'.heap.size := (by omega)); (try have hz3 : w.heap.size + 3 < w'.heap.size := (by omega)); (try have hz4 : w.heap.size + 4 < w'.heap.size := (by omega)); (try have hz5 : w.heap.size + 5 < w'.heap.size := (by omega)))
            go_roundw
            case rel => exact ⟨j + 1 + 1, by go_num, by omega, AllTo.succ hall.out Hx.out (by dsimp only; omega), AdjTo.succ hadj.out Hy.out Hx.out (by unfold NextP; dsimp only; omega), by (repeat (first | with_reducible exact Gw.refl _ | with_reducible assumption | ((with_reducible refine Gw.set ?_ ?_ _); rotate_left; (focus (first | (simp; done) | (simp; omega) | omega))) | with_reducible refine Gw.alloc ?_ _ | with_reducible refine Gw.drew ?_ | with_reducible refine Gw.drewN ?_ _ | (refine Gw.trans ?_ (by with_reducible assumption))))⟩
            case measure => simp [intOf]; omega
    · have HA : Hid (∀ x ∈ l, WinP x.1 x.2.1 x.2.2) := AllTo.all hall.out (by omega)
      have HN : Hid (∀ i x y, l[i]? = some y → l[i + 1]? = some x → NextP y x) := AdjTo.all hadj.out (by omega)
      go_wp2_with fail
      go_ret
      exact tells_of (by have h := HA.out; have h2 := HN.out; simp only [decide_eq_true_eq]; exact ⟨fun h' => ⟨h, h2, by omega⟩, fun h' => by have := h'.2.2; omega⟩) (by (repeat (first | with_reducible exact Gw.refl _ | with_reducible assumption | ((with_reducible refine Gw.set ?_ ?_ _); rotate_left; (focus (first | (simp; done) | (simp; omega) | omega))) | with_reducible refine Gw.alloc ?_ _ | with_reducible refine Gw.drew ?_ | with_reducible refine Gw.drewN ?_ _ | (refine Gw.trans ?_ (by with_reducible assumption)))))


set_option maxHeartbeats 4000000 in
theorem i_AreWindows (A : Option Addr) (c : Nat) (l : List (Int × Int × Int)) (w : World) (hl : l.length ≤ 1048576) (hA : Rd w A l) :
    Calls Try.prog 43 #[.slice A l.length c] w (Tells (WinsP l) w) := by
  go_enter Try.func43, Try.ntmps43
  by_cases hl20 : l.length ≤ 20
  case neg =>
    go_wp2_with fail
    go_ret
    exact .inr ⟨fun h => by have := h.2.2; omega, rfl, by (repeat (first | with_reducible exact Gw.refl _ | with_reducible assumption | ((with_reducible refine Gw.set ?_ ?_ _); rotate_left; (focus (first | (simp; done) | (simp; omega) | omega))) | with_reducible refine Gw.alloc ?_ _ | with_reducible refine Gw.drew ?_ | with_reducible refine Gw.drewN ?_ _ | (refine Gw.trans ?_ (by with_reducible assumption))))⟩
  go_wp2_with fail
  go_loopw [10] (fun i wr => ∃ k : Nat, i = .int .i64 k ∧ k ≤ l.length ∧ Hid (AllTo (fun x : (Int × Int × Int) => WinP x.1 x.2.1 x.2.2) l k) ∧ Hid (AdjTo NextP l k) ∧ Gw w wr) (fun i _ => l.length - (intOf i).toNat)
  case atStart => exact ⟨0, by go_num, Nat.zero_le _, AllTo.zero, AdjTo.zero, by (repeat (first | with_reducible exact Gw.refl _ | with_reducible assumption | ((with_reducible refine Gw.set ?_ ?_ _); rotate_left; (focus (first | (simp; done) | (simp; omega) | omega))) | with_reducible refine Gw.alloc ?_ _ | with_reducible refine Gw.drew ?_ | with_reducible refine Gw.drewN ?_ _ | (refine Gw.trans ?_ (by with_reducible assumption))))⟩
  case round =>
    obtain ⟨k, rfl, hk, hall, hadj, hgw⟩ := hrel
    by_cases hlt : k < l.length
    · obtain ⟨x, hx⟩ := get_of_lt hlt
      obtain ⟨x1, x2, x3⟩ := x
      have hAr := hA.gw hgw
      obtain ⟨b, off, rfl, hb, c0, c1, c2⟩ := hAr.get3 hx
      dsimp only at c0 c1 c2
      have Hx : Hid (l[k]? = some (x1, x2, x3)) := hx; clear hx
      go_wp2_with (first | (go_at_call 70; refine (i_isWindow _ _ _ _).mono ?_; rintro e w' (⟨hp, rfl, hb⟩ | ⟨hp, rfl, hb⟩) <;> (have hc := hb.cells; have hf := hb.frozens; have hz := hb.size; (try simp at hz); (try have hz0 : w.heap.size < w'.heap.size := (by omega)); (try have hz1 : w.heap.size + 1 < w'.heap.size := (by omega)); (try have hz2 : w.heap.size + 2 < w'.heap.size := (by omega)); (try have hz3 : w.heap.size + 3 < w'.heap.size := (by omega)); (try have hz4 : w.heap.size + 4 < w'.heap.size := (by omega)); (try have hz5 : w.heap.size + 5 < w'.heap.size := (by omega)))))
      all_goals first
        | (go_ret
           exact .inr ⟨fun h => by have := h.1 _ (mem_of_get Hx.out); dsimp only at this; omega, rfl, by (repeat (first | with_reducible exact Gw.refl _ | with_reducible assumption | ((with_reducible refine Gw.set ?_ ?_ _); rotate_left; (focus (first | (simp; done) | (simp; omega) | omega))) | with_reducible refine Gw.alloc ?_ _ | with_reducible refine Gw.drew ?_ | with_reducible refine Gw.drewN ?_ _ | (refine Gw.trans ?_ (by with_reducible assumption))))⟩)
        | skip
      have hbb : b < w'.heap.size := by omega
      have hbw : wr.heap.size < w'.heap.size := by omega
      rcases Nat.eq_zero_or_pos k with rfl | hpos
      · have g0 : decide ((0 : Int) > 0) = false := by simp
        have g1 : decide (((0 : Nat) : Int) > 0) = false := by simp
        go_wp2_with ((with_reducible refine wp_region_gw (by kernel_rfl) (by kernel_rfl) ?_); have hcq := @GwOf.cell; (repeat (go_big_quiet_step (fail))); refine wpQuiet_nil ?_; clear hcq; rintro w' ⟨⟨w', hb⟩, rfl⟩; (try dsimp only); have hc := hb.cells; have hf := hb.frozens; have hz := hb.size; (try simp at hz); (try have hz0 : w.heap.size < w'.heap.size := (by omega)); (try have hz1 : w.heap.size + 1 < w'.heap.size := (by omega)); (try have hz2 : w.heap.size + 2 < w'.heap.size := (by omega)); (try have hz3 : w.heap.size + 3 < w'.heap.size := (by omega)); (try have hz4 : w.heap.size + 4 < w'.heap.size := (by omega)); (try have hz5 : w.heap.size + 5 < w'.heap.size := (by omega)))
        go_roundw
        case rel => exact ⟨0 + 1, by go_num, by omega, AllTo.succ hall.out Hx.out (by dsimp only; omega), AdjTo.one, by (repeat (first | with_reducible exact Gw.refl _ | with_reducible assumption | ((with_reducible refine Gw.set ?_ ?_ _); rotate_left; (focus (first | (simp; done) | (simp; omega) | omega))) | with_reducible refine Gw.alloc ?_ _ | with_reducible refine Gw.drew ?_ | with_reducible refine Gw.drewN ?_ _ | (refine Gw.trans ?_ (by with_reducible assumption))))⟩
        case measure => simp [intOf]; omega
      · obtain ⟨j, rfl⟩ : ∃ j, k = j + 1 := ⟨k - 1, by omega⟩
        obtain ⟨y, hy⟩ := get_of_lt (l := l) (k := j) (by omega)
        obtain ⟨y1, y2, y3⟩ := y
        obtain ⟨b', off', hbe, hb', d0, d1, d2⟩ := hAr.get3 hy
        simp only [Option.some.injEq, Addr.mk.injEq, and_true] at hbe
        obtain ⟨rfl, rfl⟩ := hbe
        dsimp only at d0 d1 d2
        have Hy : Hid (l[j]? = some (y1, y2, y3)) := hy; clear hy
        have g1 : decide (((j + 1 : Nat) : Int) > 0) = true := by (first | (simp; done) | (simp; omega))
        have hj : IntKind.i64.wrap (((j + 1 : Nat) : Int) - 1) = (j : Int) := by rw [IntWalk.i64_in _ (by omega)]; omega
        have hj2 : IntKind.i64.wrap ((j : Int) + 1 - 1) = (j : Int) := by rw [IntWalk.i64_in _ (by omega)]; omega
        by_cases h1 : x1 < y1
        · have t1 : decide (x1 < y1) = true := by simp [h1]
          have t2 : decide (y1 > x1) = true := by simp [h1]
          go_wp2_with ((with_reducible refine wp_region_gw (by kernel_rfl) (by kernel_rfl) ?_); have hcq := @GwOf.cell; (repeat (go_big_quiet_step (fail))); refine wpQuiet_nil ?_; clear hcq; rintro w' ⟨⟨w', hb⟩, rfl⟩; (try dsimp only); have hc := hb.cells; have hf := hb.frozens; have hz := hb.size; (try simp at hz); (try have hz0 : w.heap.size < w'.heap.size := (by omega)); (try have hz1 : w.heap.size + 1 < w'.heap.size := (by omega)); (try have hz2 : w.heap.size + 2 < w'.heap.size := (by omega)); (try have hz3 : w.heap.size + 3 < w'.heap.size := (by omega)); (try have hz4 : w.heap.size + 4 < w'.heap.size := (by omega)); (try have hz5 : w.heap.size + 5 < w'.heap.size := (by omega)))
          go_ret
          exact .inr ⟨fun h => h.2.1 j (x1, x2, x3) (y1, y2, y3) Hy.out Hx.out (by simp only; omega), rfl, by (repeat (first | with_reducible exact Gw.refl _ | with_reducible assumption | ((with_reducible refine Gw.set ?_ ?_ _); rotate_left; (focus (first | (simp; done) | (simp; omega) | omega))) | with_reducible refine Gw.alloc ?_ _ | with_reducible refine Gw.drew ?_ | with_reducible refine Gw.drewN ?_ _ | (refine Gw.trans ?_ (by with_reducible assumption))))⟩
        · have t1 : decide (x1 < y1) = false := by simp; omega
          have t2 : decide (y1 > x1) = false := by simp; omega
          by_cases h2 : x1 = y1
          · have e1 : (x1 == y1) = true := by simp [h2]
            have e2 : (y1 == x1) = true := by simp [h2]
            by_cases h3 : x2 ≤ y3
            · have t3 : decide (x2 ≤ y3) = true := by simp [h3]
              have t4 : decide (y3 ≥ x2) = true := by simp [h3]
              go_wp2_with ((with_reducible refine wp_region_gw (by kernel_rfl) (by kernel_rfl) ?_); have hcq := @GwOf.cell; (repeat (go_big_quiet_step (fail))); refine wpQuiet_nil ?_; clear hcq; rintro w' ⟨⟨w', hb⟩, rfl⟩; (try dsimp only); have hc := hb.cells; have hf := hb.frozens; have hz := hb.size; (try simp at hz); (try have hz0 : w.heap.size < w'.heap.size := (by omega)); (try have hz1 : w.heap.size + 1 < w'.heap.size := (by omega)); (try have hz2 : w.heap.size + 2 < w'.heap.size := (by omega)); (try have hz3 : w.heap.size + 3 < w'.heap.size := (by omega)); (try have hz4 : w.heap.size + 4 < w'.heap.size := (by omega)); (try have hz5 : w.heap.size + 5 < w'.heap.size := (by omega)))
              go_ret
              exact .inr ⟨fun h => h.2.1 j (x1, x2, x3) (y1, y2, y3) Hy.out Hx.out (by simp only; omega), rfl, by (repeat (first | with_reducible exact Gw.refl _ | with_reducible assumption | ((with_reducible refine Gw.set ?_ ?_ _); rotate_left; (focus (first | (simp; done) | (simp; omega) | omega))) | with_reducible refine Gw.alloc ?_ _ | with_reducible refine Gw.drew ?_ | with_reducible refine Gw.drewN ?_ _ | (refine Gw.trans ?_ (by with_reducible assumption))))⟩
            · have t3 : decide (x2 ≤ y3) = false := by simp; omega
              have t4 : decide (y3 ≥ x2) = false := by simp; omega
              go_wp2_with ((with_reducible refine wp_region_gw (by kernel_rfl) (by kernel_rfl) ?_); have hcq := @GwOf.cell; (repeat (go_big_quiet_step (fail))); refine wpQuiet_nil ?_; clear hcq; rintro w' ⟨⟨w', hb⟩, rfl⟩; (try dsimp only); have hc := hb.cells; have hf := hb.frozens; have hz := hb.size; (try simp at hz); (try have hz0 : w.heap.size < w'.heap.size := (by omega)); (try have hz1 : w.heap.size + 1 < w'.heap.size := (by omega)); (try have hz2 : w.heap.size + 2 < w'.heap.size := (by omega)); (try have hz3 : w.heap.size + 3 < w'.heap.size := (by omega)); (try have hz4 : w.heap.size + 4 < w'.heap.size := (by omega)); (try have hz5 : w.heap.size + 5 < w'.heap.size := (by omega)))
              go_roundw
              case rel => exact ⟨j + 1 + 1, by go_num, by omega, AllTo.succ hall.out Hx.out (by dsimp only; omega), AdjTo.succ hadj.out Hy.out Hx.out (by unfold NextP; dsimp only; omega), by (repeat (first | with_reducible exact Gw.refl _ | with_reducible assumption | ((with_reducible refine Gw.set ?_ ?_ _); rotate_left; (focus (first | (simp; done) | (simp; omega) | omega))) | with_reducible refine Gw.alloc ?_ _ | with_reducible refine Gw.drew ?_ | with_reducible refine Gw.drewN ?_ _ | (refine Gw.trans ?_ (by with_reducible assumption))))⟩
              case measure => simp [intOf]; omega
          · have e1 : (x1 == y1) = false := by simp [h2]
            have e2 : (y1 == x1) = false := by simp; exact fun h => h2 h.symm
            go_wp2_with ((with_reducible refine wp_region_gw (by kernel_rfl) (by kernel_rfl) ?_); have hcq := @GwOf.cell; (repeat (go_big_quiet_step (fail))); refine wpQuiet_nil ?_; clear hcq; rintro w' ⟨⟨w', hb⟩, rfl⟩; (try dsimp only); have hc := hb.cells; have hf := hb.frozens; have hz := hb.size; (try simp at hz); (try have hz0 : w.heap.size < w'.heap.size := (by omega)); (try have hz1 : w.heap.size + 1 < w'.heap.size := (by omega)); (try have hz2 : w.heap.size + 2 < w'.heap.size := (by omega)); (try have hz3 : w.heap.size + 3 < w'.heap.size := (by omega)); (try have hz4 : w.heap.size + 4 < w'.heap.size := (by omega)); (try have hz5 : w.heap.size + 5 < w'.heap.size := (by omega)))
            go_roundw
            case rel => exact ⟨j + 1 + 1, by go_num, by omega, AllTo.succ hall.out Hx.out (by dsimp only; omega), AdjTo.succ hadj.out Hy.out Hx.out (by unfold NextP; dsimp only; omega), by (repeat (first | with_reducible exact Gw.refl _ | with_reducible assumption | ((with_reducible refine Gw.set ?_ ?_ _); rotate_left; (focus (first | (simp; done) | (simp; omega) | omega))) | with_reducible refine Gw.alloc ?_ _ | with_reducible refine Gw.drew ?_ | with_reducible refine Gw.drewN ?_ _ | (refine Gw.trans ?_ (by with_reducible assumption))))⟩
            case measure => simp [intOf]; omega
    · have HA : Hid (∀ x ∈ l, WinP x.1 x.2.1 x.2.2) := AllTo.all hall.out (by omega)
      have HN : Hid (∀ i x y, l[i]? = some y → l[i + 1]? = some x → NextP y x) := AdjTo.all hadj.out (by omega)
      go_wp2_with fail
      go_ret
      exact .inl ⟨⟨HA.out, HN.out, hl20⟩, rfl, by (repeat (first | with_reducible exact Gw.refl _ | with_reducible assumption | ((with_reducible refine Gw.set ?_ ?_ _); rotate_left; (focus (first | (simp; done) | (simp; omega) | omega))) | with_reducible refine Gw.alloc ?_ _ | with_reducible refine Gw.drew ?_ | with_reducible refine Gw.drewN ?_ _ | (refine Gw.trans ?_ (by with_reducible assumption))))⟩


end Go.Proofs.Ytipndibiioajmaa