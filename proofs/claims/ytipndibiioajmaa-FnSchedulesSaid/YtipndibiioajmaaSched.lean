/-
  What is a schedule.
-/
import Derived.Test.YtipndibiioajmaaWin
import Derived.Test.YtipndibiioajmaaBook
namespace Go.Proofs.Ytipndibiioajmaa
open Go.RowKit

abbrev forP (l : List (Int × Int × Int)) (n f t : Int) : Prop := ∃ y ∈ l, y.1 = n ∧ y.2.1 ≤ f ∧ t ≤ y.2.2
abbrev fitB (W : List (Int × Int × Int)) (r : (Int × Int)) (x : (Int × Int × Int × Int)) : Prop := x.1 = r.1 ∧ x.2.2.2 - x.2.2.1 = r.2 ∧ forP W x.2.1 x.2.2.1 x.2.2.2
def FitTo (W : List (Int × Int × Int)) (L : List (Int × Int)) (S : List (Int × Int × Int × Int)) (k : Nat) : Prop := ∀ i x r, i < k → S[i]? = some x → L[i]? = some r → fitB W r x
theorem FitTo.succ {W : List (Int × Int × Int)} {L : List (Int × Int)} {S : List (Int × Int × Int × Int)} {k : Nat} {x : (Int × Int × Int × Int)} {r : (Int × Int)} (h : FitTo W L S k) (hx : S[k]? = some x) (hr : L[k]? = some r) (hp : fitB W r x) : FitTo W L S (k + 1) := by
  intro i y q hi hy hq
  by_cases e : i = k
  · subst e; rw [hx] at hy; rw [hr] at hq; cases hy; cases hq; exact hp
  · exact h i y q (by omega) hy hq
abbrev SchedP (W : List (Int × Int × Int)) (L : List (Int × Int)) (S : List (Int × Int × Int × Int)) : Prop := S.length = L.length ∧ ∀ (i : Nat) (x : (Int × Int × Int × Int)) (r : (Int × Int)), S[i]? = some x → L[i]? = some r → fitB W r x
open Classical in
noncomputable def schedF (W : List (Int × Int × Int)) (L : List (Int × Int)) (S : List (Int × Int × Int × Int)) : Bool × Bool := if WinsP W ∧ RehP L ∧ BookP S then (decide (SchedP W L S), true) else (false, false)
open Classical in
theorem schedF_yes {W : List (Int × Int × Int)} {L : List (Int × Int)} {S : List (Int × Int × Int × Int)} (h : WinsP W ∧ RehP L ∧ BookP S) (g : SchedP W L S) : schedF W L S = (true, true) := by unfold schedF; rw [if_pos h]; simp only [decide_eq_true g]
open Classical in
theorem schedF_no {W : List (Int × Int × Int)} {L : List (Int × Int)} {S : List (Int × Int × Int × Int)} (h : WinsP W ∧ RehP L ∧ BookP S) (g : ¬SchedP W L S) : schedF W L S = (false, true) := by unfold schedF; rw [if_pos h]; simp only [decide_eq_false g]
theorem schedF_bad {W : List (Int × Int × Int)} {L : List (Int × Int)} {S : List (Int × Int × Int × Int)} (h : ¬(WinsP W ∧ RehP L ∧ BookP S)) : schedF W L S = (false, false) := by unfold schedF; rw [if_neg h]
theorem ret_bb {f : Bool × Bool} {a b : Bool} (h : f = (a, b)) : Ending.returned (.tuple #[.bool a, .bool b]) = .returned (.tuple #[.bool f.1, .bool f.2]) := by rw [h]

set_option maxHeartbeats 2000000 in
theorem s_reOpen (A : Option Addr) (cap : Nat) (l : List (Int × Int × Int)) (n f t : Int) (w : World) (hl : l.length ≤ 1048576) (hA : Rd w A l) :
    Calls Try.prog 79 #[.slice A l.length cap, .int .i64 n, .int .i64 f, .int .i64 t] w (Tells (forP l n f t) w) := by
  go_enter Try.func79, Try.ntmps79
  go_wp2_with fail
  go_loopw [13] (fun i wr => ∃ k : Nat, i = .int .i64 k ∧ k ≤ l.length ∧ Hid (AllTo (fun y : (Int × Int × Int) => ¬(y.1 = n ∧ y.2.1 ≤ f ∧ t ≤ y.2.2)) l k) ∧ Gw w wr) (fun i _ => l.length - (intOf i).toNat)
  case atStart => exact ⟨0, by go_num, Nat.zero_le _, AllTo.zero, by (repeat (first | with_reducible exact Gw.refl _ | with_reducible assumption | ((with_reducible refine Gw.set ?_ ?_ _); rotate_left; (focus (first | (simp; done) | (simp; omega) | omega))) | with_reducible refine Gw.alloc ?_ _ | with_reducible refine Gw.drew ?_ | with_reducible refine Gw.drewN ?_ _ | (refine Gw.trans ?_ (by with_reducible assumption))))⟩
  case round =>
    obtain ⟨k, rfl, hk, hall, hgw⟩ := hrel
    by_cases hlt : k < l.length
    · obtain ⟨x, hx⟩ := get_of_lt hlt
      obtain ⟨x1, x2, x3⟩ := x
      obtain ⟨b, off, rfl, hb, c0, c1, c2⟩ := (hA.gw hgw).get3 hx
      dsimp only at c0 c1 c2
      have Hx := Lib.hid hx
      clear hx
      by_cases h1 : x1 = n
      · have e1 : (x1 == n) = true := by simp [h1]
        by_cases h2 : x2 ≤ f
        · by_cases h3 : t ≤ x3
          · have He : Hid (∃ y ∈ l, y.1 = n ∧ y.2.1 ≤ f ∧ t ≤ y.2.2) := ⟨_, mem_of_get Hx.out, h1, h2, h3⟩
            go_wp2_with fail
            go_ret
            exact .inl ⟨He.out, rfl, by (repeat (first | with_reducible exact Gw.refl _ | with_reducible assumption | ((with_reducible refine Gw.set ?_ ?_ _); rotate_left; (focus (first | (simp; done) | (simp; omega) | omega))) | with_reducible refine Gw.alloc ?_ _ | with_reducible refine Gw.drew ?_ | with_reducible refine Gw.drewN ?_ _ | (refine Gw.trans ?_ (by with_reducible assumption))))⟩
          · go_wp2_with fail
            go_roundw
            case rel => exact ⟨k + 1, by go_num, by omega, AllTo.succ hall.out Hx.out (by dsimp only; omega), by (repeat (first | with_reducible exact Gw.refl _ | with_reducible assumption | ((with_reducible refine Gw.set ?_ ?_ _); rotate_left; (focus (first | (simp; done) | (simp; omega) | omega))) | with_reducible refine Gw.alloc ?_ _ | with_reducible refine Gw.drew ?_ | with_reducible refine Gw.drewN ?_ _ | (refine Gw.trans ?_ (by with_reducible assumption))))⟩
            case measure => simp [intOf]; omega
        · go_wp2_with fail
          go_roundw
          case rel => exact ⟨k + 1, by go_num, by omega, AllTo.succ hall.out Hx.out (by dsimp only; omega), by (repeat (first | with_reducible exact Gw.refl _ | with_reducible assumption | ((with_reducible refine Gw.set ?_ ?_ _); rotate_left; (focus (first | (simp; done) | (simp; omega) | omega))) | with_reducible refine Gw.alloc ?_ _ | with_reducible refine Gw.drew ?_ | with_reducible refine Gw.drewN ?_ _ | (refine Gw.trans ?_ (by with_reducible assumption))))⟩
          case measure => simp [intOf]; omega
      · have e1 : (x1 == n) = false := by simp [h1]
        go_wp2_with fail
        go_roundw
        case rel => exact ⟨k + 1, by go_num, by omega, AllTo.succ hall.out Hx.out (by dsimp only; omega), by (repeat (first | with_reducible exact Gw.refl _ | with_reducible assumption | ((with_reducible refine Gw.set ?_ ?_ _); rotate_left; (focus (first | (simp; done) | (simp; omega) | omega))) | with_reducible refine Gw.alloc ?_ _ | with_reducible refine Gw.drew ?_ | with_reducible refine Gw.drewN ?_ _ | (refine Gw.trans ?_ (by with_reducible assumption))))⟩
        case measure => simp [intOf]; omega
    · have HA : Hid (∀ y ∈ l, ¬(y.1 = n ∧ y.2.1 ≤ f ∧ t ≤ y.2.2)) := AllTo.all hall.out (by omega)
      go_wp2_with fail
      go_ret
      exact .inr ⟨fun ⟨x, hx, hp⟩ => HA.out x hx hp, rfl, by (repeat (first | with_reducible exact Gw.refl _ | with_reducible assumption | ((with_reducible refine Gw.set ?_ ?_ _); rotate_left; (focus (first | (simp; done) | (simp; omega) | omega))) | with_reducible refine Gw.alloc ?_ _ | with_reducible refine Gw.drew ?_ | with_reducible refine Gw.drewN ?_ _ | (refine Gw.trans ?_ (by with_reducible assumption))))⟩


set_option maxHeartbeats 2000000 in
theorem i_isOpenFor (A : Option Addr) (cap : Nat) (l : List (Int × Int × Int)) (s n f t : Int) (w : World) (hl : l.length ≤ 1048576) (hA : Rd w A l) :
    Calls Try.prog 62 #[.slice A l.length cap, .agg #[.int .i64 s, .int .i64 n, .int .i64 f, .int .i64 t]] w (Tells (forP l n f t) w) := by
  go_enter Try.func62, Try.ntmps62
  go_wp2_with fail
  go_loopw [9] (fun i wr => ∃ k : Nat, i = .int .i64 k ∧ k ≤ l.length ∧ Hid (AllTo (fun y : (Int × Int × Int) => ¬(y.1 = n ∧ y.2.1 ≤ f ∧ t ≤ y.2.2)) l k) ∧ Gw (w.alloc (.cells #[.int .i64 s, .int .i64 n, .int .i64 f, .int .i64 t] 88)) wr) (fun i _ => l.length - (intOf i).toNat)
  case atStart => exact ⟨0, by go_num, Nat.zero_le _, AllTo.zero, by (repeat (first | with_reducible exact Gw.refl _ | with_reducible assumption | ((with_reducible refine Gw.set ?_ ?_ _); rotate_left; (focus (first | (simp; done) | (simp; omega) | omega))) | with_reducible refine Gw.alloc ?_ _ | with_reducible refine Gw.drew ?_ | with_reducible refine Gw.drewN ?_ _ | (refine Gw.trans ?_ (by with_reducible assumption))))⟩
  case round =>
    obtain ⟨k, rfl, hk, hall, hgw⟩ := hrel
    have hcr := hgw.cells
    have hzr := hgw.size
    (try simp at hzr)
    have hzr0 : w.heap.size < wr.heap.size := by omega
    by_cases hlt : k < l.length
    · obtain ⟨x, hx⟩ := get_of_lt hlt
      obtain ⟨x1, x2, x3⟩ := x
      obtain ⟨b, off, rfl, hb, c0, c1, c2⟩ := (hA.gw (Gw.trans (by (repeat (first | with_reducible exact Gw.refl _ | with_reducible assumption | ((with_reducible refine Gw.set ?_ ?_ _); rotate_left; (focus (first | (simp; done) | (simp; omega) | omega))) | with_reducible refine Gw.alloc ?_ _ | with_reducible refine Gw.drew ?_ | with_reducible refine Gw.drewN ?_ _ | (refine Gw.trans ?_ (by with_reducible assumption))))) hgw)).get3 hx
      dsimp only at c0 c1 c2
      have Hx := Lib.hid hx
      clear hx
      by_cases h1 : x1 = n
      · have e1 : (x1 == n) = true := by simp [h1]
        by_cases h2 : x2 ≤ f
        · by_cases h3 : t ≤ x3
          · have He : Hid (∃ y ∈ l, y.1 = n ∧ y.2.1 ≤ f ∧ t ≤ y.2.2) := ⟨_, mem_of_get Hx.out, h1, h2, h3⟩
            go_wp2_with fail
            go_ret
            exact .inl ⟨He.out, rfl, by (repeat (first | with_reducible exact Gw.refl _ | with_reducible assumption | ((with_reducible refine Gw.set ?_ ?_ _); rotate_left; (focus (first | (simp; done) | (simp; omega) | omega))) | with_reducible refine Gw.alloc ?_ _ | with_reducible refine Gw.drew ?_ | with_reducible refine Gw.drewN ?_ _ | (refine Gw.trans ?_ (by with_reducible assumption))))⟩
          · go_wp2_with fail
            go_roundw
            case rel => exact ⟨k + 1, by go_num, by omega, AllTo.succ hall.out Hx.out (by dsimp only; omega), by (repeat (first | with_reducible exact Gw.refl _ | with_reducible assumption | ((with_reducible refine Gw.set ?_ ?_ _); rotate_left; (focus (first | (simp; done) | (simp; omega) | omega))) | with_reducible refine Gw.alloc ?_ _ | with_reducible refine Gw.drew ?_ | with_reducible refine Gw.drewN ?_ _ | (refine Gw.trans ?_ (by with_reducible assumption))))⟩
            case measure => simp [intOf]; omega
        · go_wp2_with fail
          go_roundw
          case rel => exact ⟨k + 1, by go_num, by omega, AllTo.succ hall.out Hx.out (by dsimp only; omega), by (repeat (first | with_reducible exact Gw.refl _ | with_reducible assumption | ((with_reducible refine Gw.set ?_ ?_ _); rotate_left; (focus (first | (simp; done) | (simp; omega) | omega))) | with_reducible refine Gw.alloc ?_ _ | with_reducible refine Gw.drew ?_ | with_reducible refine Gw.drewN ?_ _ | (refine Gw.trans ?_ (by with_reducible assumption))))⟩
          case measure => simp [intOf]; omega
      · have e1 : (x1 == n) = false := by simp [h1]
        go_wp2_with fail
        go_roundw
        case rel => exact ⟨k + 1, by go_num, by omega, AllTo.succ hall.out Hx.out (by dsimp only; omega), by (repeat (first | with_reducible exact Gw.refl _ | with_reducible assumption | ((with_reducible refine Gw.set ?_ ?_ _); rotate_left; (focus (first | (simp; done) | (simp; omega) | omega))) | with_reducible refine Gw.alloc ?_ _ | with_reducible refine Gw.drew ?_ | with_reducible refine Gw.drewN ?_ _ | (refine Gw.trans ?_ (by with_reducible assumption))))⟩
        case measure => simp [intOf]; omega
    · have HA : Hid (∀ y ∈ l, ¬(y.1 = n ∧ y.2.1 ≤ f ∧ t ≤ y.2.2)) := AllTo.all hall.out (by omega)
      go_wp2_with fail
      go_ret
      exact .inr ⟨fun ⟨x, hx, hp⟩ => HA.out x hx hp, rfl, by (repeat (first | with_reducible exact Gw.refl _ | with_reducible assumption | ((with_reducible refine Gw.set ?_ ?_ _); rotate_left; (focus (first | (simp; done) | (simp; omega) | omega))) | with_reducible refine Gw.alloc ?_ _ | with_reducible refine Gw.drew ?_ | with_reducible refine Gw.drewN ?_ _ | (refine Gw.trans ?_ (by with_reducible assumption))))⟩


set_option maxHeartbeats 4000000 in
set_option maxRecDepth 100000 in
theorem i_IsSchedule (AW : Option Addr) (cw : Nat) (W : List (Int × Int × Int)) (AL : Option Addr) (cl : Nat) (L : List (Int × Int)) (AS : Option Addr) (cs : Nat) (S : List (Int × Int × Int × Int)) (w : World)
    (hlW : W.length ≤ 1048576) (hW : Rd w AW W) (_hcw : W.length ≤ cw) (hlL : L.length ≤ 1048576) (hL : Rd w AL L) (_hcl : L.length ≤ cl) (hlS : S.length ≤ 1048576) (hS : Rd w AS S) (hcs : S.length ≤ cs) :
    Calls Try.prog 35 #[.slice AW W.length cw, .slice AL L.length cl, .slice AS S.length cs] w fun e w' => e = .returned (.tuple #[.bool (schedF W L S).1, .bool (schedF W L S).2]) ∧ Gw w w' := by
  go_enter Try.func35, Try.ntmps35
  go_wp2_with fail
  refine (i_AreWindows _ _ _ _ hlW (hW.gw (by (repeat (first | with_reducible exact Gw.refl _ | with_reducible assumption | ((with_reducible refine Gw.set ?_ ?_ _); rotate_left; (focus (first | (simp; done) | (simp; omega) | omega))) | with_reducible refine Gw.alloc ?_ _ | with_reducible refine Gw.drew ?_ | with_reducible refine Gw.drewN ?_ _ | (refine Gw.trans ?_ (by with_reducible assumption))))))).mono ?_
  rintro _ w1 (⟨hp, rfl, hb1⟩ | ⟨hp, rfl, hb1⟩)
  case inr =>
    have HB := Lib.hid hp
    clear hp
    have hc1 := hb1.cells; have hf1 := hb1.frozens; have hz1 := hb1.size; (try simp at hz1); (try have hy1 : w.heap.size < w1.heap.size := by omega); (try have hx1 : w.heap.size ≤ w1.heap.size := by omega)
    have hno : schedF W L S = (false, false) := schedF_bad (fun h => HB.out h.1)
    go_wp2_with fail
    go_ret2
    exact ⟨ret_bb hno, by (repeat (first | with_reducible exact Gw.refl _ | with_reducible assumption | ((with_reducible refine Gw.set ?_ ?_ _); rotate_left; (focus (first | (simp; done) | (simp; omega) | omega))) | with_reducible refine Gw.alloc ?_ _ | with_reducible refine Gw.drew ?_ | with_reducible refine Gw.drewN ?_ _ | (refine Gw.trans ?_ (by with_reducible assumption))))⟩
  have HW := Lib.hid hp
  clear hp
  have hc1 := hb1.cells; have hf1 := hb1.frozens; have hz1 := hb1.size; (try simp at hz1); (try have hy1 : w.heap.size < w1.heap.size := by omega); (try have hx1 : w.heap.size ≤ w1.heap.size := by omega)
  go_wp2_with fail
  refine (i_AreRehearsals _ _ _ _ hlL (hL.gw (by (repeat (first | with_reducible exact Gw.refl _ | with_reducible assumption | ((with_reducible refine Gw.set ?_ ?_ _); rotate_left; (focus (first | (simp; done) | (simp; omega) | omega))) | with_reducible refine Gw.alloc ?_ _ | with_reducible refine Gw.drew ?_ | with_reducible refine Gw.drewN ?_ _ | (refine Gw.trans ?_ (by with_reducible assumption))))))).mono ?_
  rintro _ w2 (⟨hp, rfl, hb2⟩ | ⟨hp, rfl, hb2⟩)
  case inr =>
    have HB := Lib.hid hp
    clear hp
    have hc2 := hb2.cells; have hf2 := hb2.frozens; have hz2 := hb2.size; (try simp at hz2); (try have hy2 : w.heap.size < w2.heap.size := by omega); (try have hx2 : w.heap.size ≤ w2.heap.size := by omega)
    have hno : schedF W L S = (false, false) := schedF_bad (fun h => HB.out h.2.1)
    go_wp2_with fail
    go_ret2
    exact ⟨ret_bb hno, by (repeat (first | with_reducible exact Gw.refl _ | with_reducible assumption | ((with_reducible refine Gw.set ?_ ?_ _); rotate_left; (focus (first | (simp; done) | (simp; omega) | omega))) | with_reducible refine Gw.alloc ?_ _ | with_reducible refine Gw.drew ?_ | with_reducible refine Gw.drewN ?_ _ | (refine Gw.trans ?_ (by with_reducible assumption))))⟩
  have HL := Lib.hid hp
  clear hp
  have hc2 := hb2.cells; have hf2 := hb2.frozens; have hz2 := hb2.size; (try simp at hz2); (try have hy2 : w.heap.size < w2.heap.size := by omega); (try have hx2 : w.heap.size ≤ w2.heap.size := by omega)
  go_wp2_with fail
  refine (i_AreBooked _ _ _ _ hlS (hS.gw (by (repeat (first | with_reducible exact Gw.refl _ | with_reducible assumption | ((with_reducible refine Gw.set ?_ ?_ _); rotate_left; (focus (first | (simp; done) | (simp; omega) | omega))) | with_reducible refine Gw.alloc ?_ _ | with_reducible refine Gw.drew ?_ | with_reducible refine Gw.drewN ?_ _ | (refine Gw.trans ?_ (by with_reducible assumption)))))) hcs).mono ?_
  rintro _ w3 (⟨hp, rfl, hb3⟩ | ⟨hp, rfl, hb3⟩)
  case inr =>
    have HB := Lib.hid hp
    clear hp
    have hc3 := hb3.cells; have hf3 := hb3.frozens; have hz3 := hb3.size; (try simp at hz3); (try have hy3 : w.heap.size < w3.heap.size := by omega); (try have hx3 : w.heap.size ≤ w3.heap.size := by omega)
    have hno : schedF W L S = (false, false) := schedF_bad (fun h => HB.out h.2.2)
    go_wp2_with fail
    go_ret2
    exact ⟨ret_bb hno, by (repeat (first | with_reducible exact Gw.refl _ | with_reducible assumption | ((with_reducible refine Gw.set ?_ ?_ _); rotate_left; (focus (first | (simp; done) | (simp; omega) | omega))) | with_reducible refine Gw.alloc ?_ _ | with_reducible refine Gw.drew ?_ | with_reducible refine Gw.drewN ?_ _ | (refine Gw.trans ?_ (by with_reducible assumption))))⟩
  have HS := Lib.hid hp
  clear hp
  have hc3 := hb3.cells; have hf3 := hb3.frozens; have hz3 := hb3.size; (try simp at hz3); (try have hy3 : w.heap.size < w3.heap.size := by omega); (try have hx3 : w.heap.size ≤ w3.heap.size := by omega)
  have hG3 : Gw w w3 := by (repeat (first | with_reducible exact Gw.refl _ | with_reducible assumption | ((with_reducible refine Gw.set ?_ ?_ _); rotate_left; (focus (first | (simp; done) | (simp; omega) | omega))) | with_reducible refine Gw.alloc ?_ _ | with_reducible refine Gw.drew ?_ | with_reducible refine Gw.drewN ?_ _ | (refine Gw.trans ?_ (by with_reducible assumption))))
  have HP : Hid (WinsP W ∧ RehP L ∧ BookP S) := ⟨HW.out, HL.out, HS.out⟩
  by_cases hlen : S.length = L.length
  case neg =>
    have hv : Hid (schedF W L S = (false, true)) := schedF_no HP.out (fun h => hlen h.1)
    have e1 : ((S.length : Int) == (L.length : Int)) = false := by simp; omega
    go_wp2_with fail
    go_ret2
    exact ⟨ret_bb hv.out, by (repeat (first | with_reducible exact Gw.refl _ | with_reducible assumption | ((with_reducible refine Gw.set ?_ ?_ _); rotate_left; (focus (first | (simp; done) | (simp; omega) | omega))) | with_reducible refine Gw.alloc ?_ _ | with_reducible refine Gw.drew ?_ | with_reducible refine Gw.drewN ?_ _ | (refine Gw.trans ?_ (by with_reducible assumption))))⟩
  have e1 : ((S.length : Int) == (L.length : Int)) = true := by simp; omega
  go_wp2_with fail
  clear e1
  go_loopw [30] (fun i wr => ∃ k : Nat, i = .int .i64 k ∧ k ≤ S.length ∧ Hid (FitTo W L S k) ∧ Gw w wr) (fun i _ => S.length - (intOf i).toNat)
  case atStart => exact ⟨0, by go_num, Nat.zero_le _, fun _ _ _ h => absurd h (by omega), by (repeat (first | with_reducible exact Gw.refl _ | with_reducible assumption | ((with_reducible refine Gw.set ?_ ?_ _); rotate_left; (focus (first | (simp; done) | (simp; omega) | omega))) | with_reducible refine Gw.alloc ?_ _ | with_reducible refine Gw.drew ?_ | with_reducible refine Gw.drewN ?_ _ | (refine Gw.trans ?_ (by with_reducible assumption))))⟩
  case round =>
    obtain ⟨k, rfl, hk, hall, hgw⟩ := hrel
    by_cases hlt : k < S.length
    · obtain ⟨x, hx⟩ := get_of_lt hlt
      obtain ⟨r, hr⟩ := get_of_lt (l := L) (k := k) (by omega)
      obtain ⟨x1, x2, x3, x4⟩ := x
      obtain ⟨r1, r2⟩ := r
      have hbk := HS.out.1 _ (mem_of_get hx)
      dsimp only at hbk
      obtain ⟨b, off, rfl, hb, c0, c1, c2, c3⟩ := (hS.gw hgw).get4 hx
      obtain ⟨b', off', rfl, hb', d0, d1⟩ := (hL.gw hgw).get2 hr
      dsimp only at c0 c1 c2 c3 d0 d1
      have hbb : b < wr.heap.size + 1 := by omega
      have hbb' : b' < wr.heap.size + 1 := by omega
      have Hx := Lib.hid hx
      have Hr := Lib.hid hr
      clear hx hr
      have hs : IntKind.i64.wrap (x4 - x3) = x4 - x3 := IntWalk.i64_in _ (by omega)
      by_cases h1 : x1 = r1
      · have e1 : (x1 == r1) = true := by simp [h1]
        by_cases h2 : x4 - x3 = r2
        · have e2 : (x4 - x3 == r2) = true := by simp [h2]
          by_cases hM : forP W x2 x3 x4
          · have HM := Lib.hid hM
            clear hM
            have hn : Hid (FitTo W L S (k + 1)) := FitTo.succ hall.out Hx.out Hr.out ⟨h1, h2, HM.out⟩
            go_wp2_with ((with_reducible refine wp_region_gw (by kernel_rfl) (by kernel_rfl) ?_); have hcq := @GwOf.cell; (repeat (go_big_quiet_step ((go_at_call 62; exact GwOf.callT HM.out (i_isOpenFor _ _ W _ _ _ _ _ hlW (hW.gw (Gw.trans (by (repeat (first | with_reducible exact Gw.refl _ | with_reducible assumption | ((with_reducible refine Gw.set ?_ ?_ _); rotate_left; (focus (first | (simp; done) | (simp; omega) | omega))) | with_reducible refine Gw.alloc ?_ _ | with_reducible refine Gw.drew ?_ | with_reducible refine Gw.drewN ?_ _ | (refine Gw.trans ?_ (by with_reducible assumption))))) (GwOf.gw _)))))))); refine wpQuiet_nil ?_; clear hcq; rintro w' ⟨⟨w', hb⟩, rfl⟩; (try dsimp only); have hc := hb.cells; have hf := hb.frozens; have hz := hb.size; (try simp at hz); (try have hz0 : w.heap.size < w'.heap.size := (by omega)); (try have hz1 : w.heap.size + 1 < w'.heap.size := (by omega)); (try have hz2 : w.heap.size + 2 < w'.heap.size := (by omega)); (try have hz3 : w.heap.size + 3 < w'.heap.size := (by omega)); (try have hz4 : w.heap.size + 4 < w'.heap.size := (by omega)); (try have hz5 : w.heap.size + 5 < w'.heap.size := (by omega)))
            go_roundw
            case rel => exact ⟨k + 1, by go_num, by omega, hn, by (repeat (first | with_reducible exact Gw.refl _ | with_reducible assumption | ((with_reducible refine Gw.set ?_ ?_ _); rotate_left; (focus (first | (simp; done) | (simp; omega) | omega))) | with_reducible refine Gw.alloc ?_ _ | with_reducible refine Gw.drew ?_ | with_reducible refine Gw.drewN ?_ _ | (refine Gw.trans ?_ (by with_reducible assumption))))⟩
            case measure => simp [intOf]; omega
          · have HM := Lib.hid hM
            clear hM
            have hv : Hid (schedF W L S = (false, true)) := schedF_no HP.out (fun h => by have := h.2 k _ _ Hx.out Hr.out; exact HM.out this.2.2)
            go_wp2_with ((with_reducible refine wp_region_gw (by kernel_rfl) (by kernel_rfl) ?_); have hcq := @GwOf.cell; (repeat (go_big_quiet_step ((go_at_call 62; exact GwOf.callF HM.out (i_isOpenFor _ _ W _ _ _ _ _ hlW (hW.gw (Gw.trans (by (repeat (first | with_reducible exact Gw.refl _ | with_reducible assumption | ((with_reducible refine Gw.set ?_ ?_ _); rotate_left; (focus (first | (simp; done) | (simp; omega) | omega))) | with_reducible refine Gw.alloc ?_ _ | with_reducible refine Gw.drew ?_ | with_reducible refine Gw.drewN ?_ _ | (refine Gw.trans ?_ (by with_reducible assumption))))) (GwOf.gw _)))))))); refine wpQuiet_nil ?_; clear hcq; rintro w' ⟨⟨w', hb⟩, rfl⟩; (try dsimp only); have hc := hb.cells; have hf := hb.frozens; have hz := hb.size; (try simp at hz); (try have hz0 : w.heap.size < w'.heap.size := (by omega)); (try have hz1 : w.heap.size + 1 < w'.heap.size := (by omega)); (try have hz2 : w.heap.size + 2 < w'.heap.size := (by omega)); (try have hz3 : w.heap.size + 3 < w'.heap.size := (by omega)); (try have hz4 : w.heap.size + 4 < w'.heap.size := (by omega)); (try have hz5 : w.heap.size + 5 < w'.heap.size := (by omega)))
            go_ret2
            exact ⟨ret_bb hv.out, by (repeat (first | with_reducible exact Gw.refl _ | with_reducible assumption | ((with_reducible refine Gw.set ?_ ?_ _); rotate_left; (focus (first | (simp; done) | (simp; omega) | omega))) | with_reducible refine Gw.alloc ?_ _ | with_reducible refine Gw.drew ?_ | with_reducible refine Gw.drewN ?_ _ | (refine Gw.trans ?_ (by with_reducible assumption))))⟩
        · have e2 : (x4 - x3 == r2) = false := by simp [h2]
          have e2b : decide (x4 - x3 = r2) = false := by simp [h2]
          have e2c : (x4 - x3 != r2) = true := by simp [h2]
          have e2d : decide (¬x4 - x3 = r2) = true := by simp [h2]
          have hv : Hid (schedF W L S = (false, true)) := schedF_no HP.out (fun h => by have := h.2 k _ _ Hx.out Hr.out; exact h2 this.2.1)
          go_wp2_with ((with_reducible refine wp_region_gw (by kernel_rfl) (by kernel_rfl) ?_); have hcq := @GwOf.cell; (repeat (go_big_quiet_step (fail))); refine wpQuiet_nil ?_; clear hcq; rintro w' ⟨⟨w', hb⟩, rfl⟩; (try dsimp only); have hc := hb.cells; have hf := hb.frozens; have hz := hb.size; (try simp at hz); (try have hz0 : w.heap.size < w'.heap.size := (by omega)); (try have hz1 : w.heap.size + 1 < w'.heap.size := (by omega)); (try have hz2 : w.heap.size + 2 < w'.heap.size := (by omega)); (try have hz3 : w.heap.size + 3 < w'.heap.size := (by omega)); (try have hz4 : w.heap.size + 4 < w'.heap.size := (by omega)); (try have hz5 : w.heap.size + 5 < w'.heap.size := (by omega)))
          go_ret2
          exact ⟨ret_bb hv.out, by (repeat (first | with_reducible exact Gw.refl _ | with_reducible assumption | ((with_reducible refine Gw.set ?_ ?_ _); rotate_left; (focus (first | (simp; done) | (simp; omega) | omega))) | with_reducible refine Gw.alloc ?_ _ | with_reducible refine Gw.drew ?_ | with_reducible refine Gw.drewN ?_ _ | (refine Gw.trans ?_ (by with_reducible assumption))))⟩
      · have e1 : (x1 == r1) = false := by simp [h1]
        have e1b : decide (x1 = r1) = false := by simp [h1]
        have e1c : (x1 != r1) = true := by simp [h1]
        have e1d : decide (¬x1 = r1) = true := by simp [h1]
        have hv : Hid (schedF W L S = (false, true)) := schedF_no HP.out (fun h => by have := h.2 k _ _ Hx.out Hr.out; exact h1 this.1)
        go_wp2_with ((with_reducible refine wp_region_gw (by kernel_rfl) (by kernel_rfl) ?_); have hcq := @GwOf.cell; (repeat (go_big_quiet_step (fail))); refine wpQuiet_nil ?_; clear hcq; rintro w' ⟨⟨w', hb⟩, rfl⟩; (try dsimp only); have hc := hb.cells; have hf := hb.frozens; have hz := hb.size; (try simp at hz); (try have hz0 : w.heap.size < w'.heap.size := (by omega)); (try have hz1 : w.heap.size + 1 < w'.heap.size := (by omega)); (try have hz2 : w.heap.size + 2 < w'.heap.size := (by omega)); (try have hz3 : w.heap.size + 3 < w'.heap.size := (by omega)); (try have hz4 : w.heap.size + 4 < w'.heap.size := (by omega)); (try have hz5 : w.heap.size + 5 < w'.heap.size := (by omega)))
        go_ret2
        exact ⟨ret_bb hv.out, by (repeat (first | with_reducible exact Gw.refl _ | with_reducible assumption | ((with_reducible refine Gw.set ?_ ?_ _); rotate_left; (focus (first | (simp; done) | (simp; omega) | omega))) | with_reducible refine Gw.alloc ?_ _ | with_reducible refine Gw.drew ?_ | with_reducible refine Gw.drewN ?_ _ | (refine Gw.trans ?_ (by with_reducible assumption))))⟩
    · have hv : Hid (schedF W L S = (true, true)) := schedF_yes HP.out ⟨hlen, fun i x r hx hr => hall.out i x r (by have := (List.getElem?_eq_some_iff.1 hx).1; omega) hx hr⟩
      go_wp2_with fail
      go_ret2
      exact ⟨ret_bb hv.out, by (repeat (first | with_reducible exact Gw.refl _ | with_reducible assumption | ((with_reducible refine Gw.set ?_ ?_ _); rotate_left; (focus (first | (simp; done) | (simp; omega) | omega))) | with_reducible refine Gw.alloc ?_ _ | with_reducible refine Gw.drew ?_ | with_reducible refine Gw.drewN ?_ _ | (refine Gw.trans ?_ (by with_reducible assumption))))⟩

end Go.Proofs.Ytipndibiioajmaa