/-
  Open places in an hour.
-/
import Derived.Test.YtipndibiioajmaaWin
import Derived.Test.YtipndibiioajmaaTyInt
namespace Go.Proofs.Ytipndibiioajmaa
open Go.RowKit

abbrev openP (l : List (Int × Int × Int)) (n h : Int) : Prop := ∃ x ∈ l, x.1 = n ∧ x.2.1 ≤ h ∧ h < x.2.2
abbrev hasH (h : Int) : (Int × Int × Int) → Bool := fun x => decide (x.2.1 ≤ h ∧ h < x.2.2)
def upTo : Nat → List Int
  | 0 => []
  | k + 1 => upTo k ++ [((k + 1 : Nat) : Int)]
theorem mem_upTo {k : Nat} {x : Int} : x ∈ upTo k ↔ 1 ≤ x ∧ x ≤ k := by
  induction k with
  | zero => simp [upTo]; omega
  | succ k ih => simp only [upTo, List.mem_append, List.mem_singleton, ih]; omega
theorem upTo_sorted (k : Nat) : (upTo k).Pairwise (· < ·) := by
  induction k with
  | zero => simp [upTo]
  | succ k ih =>
    rw [upTo, List.pairwise_append]
    refine ⟨ih, by simp, fun a ha b hb => ?_⟩
    have := mem_upTo.1 ha
    simp at hb
    omega
theorem sorted_ext : ∀ {l m : List Int}, l.Pairwise (· < ·) → m.Pairwise (· < ·) → (∀ x, x ∈ l ↔ x ∈ m) → l = m
  | [], [], _, _, _ => rfl
  | [], y :: m, _, _, h => absurd ((h y).2 (by simp)) (by simp)
  | x :: l, [], _, _, h => absurd ((h x).1 (by simp)) (by simp)
  | x :: l, y :: m, hl, hm, h => by
    rw [List.pairwise_cons] at hl hm
    have hxy : x = y := by
      have h1 := (h x).1 (by simp)
      have h2 := (h y).2 (by simp)
      simp only [List.mem_cons] at h1 h2
      rcases h1 with h1 | h1
      · exact h1
      · rcases h2 with h2 | h2
        · exact h2.symm
        · have := hm.1 x h1; have := hl.1 y h2; omega
    subst hxy
    rw [sorted_ext hl.2 hm.2 (fun z => by
      have hz := h z
      simp only [List.mem_cons] at hz
      constructor
      · intro g
        rcases hz.1 (.inr g) with e | e
        · have := hl.1 z g; omega
        · exact e
      · intro g
        rcases hz.2 (.inr g) with e | e
        · have := hm.1 z g; omega
        · exact e)]
theorem pairwise_of_adj {α : Type} {R : α → α → Prop} {P : α → Prop} (tr : ∀ a b c, P b → R a b → R b c → R a c) : ∀ (l : List α), (∀ x ∈ l, P x) → (∀ i x y, l[i]? = some y → l[i + 1]? = some x → R y x) → l.Pairwise R
  | [], _, _ => .nil
  | [a], _, _ => by simp
  | a :: b :: l, hP, h => by
    have ih := pairwise_of_adj tr (b :: l) (fun x hx => hP x (List.mem_cons_of_mem _ hx)) (fun i x y hy hx => h (i + 1) x y (by simpa using hy) (by simpa using hx))
    refine List.pairwise_cons.2 ⟨fun x hx => ?_, ih⟩
    have hab := h 0 b a rfl rfl
    rcases List.mem_cons.1 hx with rfl | hx
    · exact hab
    · exact tr a b x (hP b (by simp)) hab ((List.pairwise_cons.1 ih).1 x hx)
theorem winsP_pair {l : List (Int × Int × Int)} (h : WinsP l) : l.Pairwise (fun y x => y.1 < x.1 ∨ (y.1 = x.1 ∧ y.2.2 < x.2.1)) :=
  pairwise_of_adj (P := fun x => x.2.1 < x.2.2) (fun a b c hb h1 h2 => by omega) l (fun x hx => by have := h.1 x hx; omega) (fun i x y hy hx => by have := h.2.1 i x y hy hx; omega)
open Classical in
theorem open_eq {l : List (Int × Int × Int)} (h : WinsP l) (n : Int) : (upTo 9).filter (fun q => decide (openP l q n)) = (l.filter (hasH n)).map (·.1) := by
  refine sorted_ext ((upTo_sorted 9).filter _) ?_ (fun x => ?_)
  · rw [List.pairwise_map]
    have hp := (winsP_pair h).filter (hasH n)
    refine List.Pairwise.imp_of_mem (fun {a b} ha hb hab => ?_) hp
    have h1 := (List.mem_filter.1 ha).2
    have h2 := (List.mem_filter.1 hb).2
    simp only [decide_eq_true_eq] at h1 h2
    omega
  · simp only [List.mem_filter, mem_upTo, decide_eq_true_eq, List.mem_map]
    constructor
    · rintro ⟨_, y, hy, rfl, h2⟩
      exact ⟨y, ⟨hy, h2⟩, rfl⟩
    · rintro ⟨y, ⟨hy, h2⟩, rfl⟩
      have := h.1 y hy
      exact ⟨by omega, y, hy, rfl, h2⟩
open Classical in
noncomputable def openF (l : List (Int × Int × Int)) (h : Int) : List Int × Bool := if WinsP l ∧ InR h 0 167 then ((l.filter (hasH h)).map (·.1), true) else ([], false)
theorem openF_len (l : List (Int × Int × Int)) (h : Int) : (openF l h).1.length ≤ 1048576 := by
  unfold openF
  split
  · rename_i g
    have := List.length_filter_le (hasH h) l
    have := g.1.2.2
    dsimp only
    rw [List.length_map]
    omega
  · simp

set_option maxHeartbeats 2000000 in
theorem s_wnOpen (A : Option Addr) (cap : Nat) (l : List (Int × Int × Int)) (n h : Int) (w : World) (hl : l.length ≤ 1048576) (hA : Rd w A l) (hP : ∀ x ∈ l, WinP x.1 x.2.1 x.2.2) :
    Calls Try.prog 61 #[.slice A l.length cap, .int .i64 n, .int .i64 h] w (Tells (openP l n h) w) := by
  have HP := Lib.hid hP
  clear hP
  go_enter Try.func61, Try.ntmps61
  go_wp2_with fail
  go_loopw [11] (fun i wr => ∃ k : Nat, i = .int .i64 k ∧ k ≤ l.length ∧ Hid (AllTo (fun x : (Int × Int × Int) => ¬(x.1 = n ∧ x.2.1 ≤ h ∧ h < x.2.2)) l k) ∧ Gw w wr) (fun i _ => l.length - (intOf i).toNat)
  case atStart => exact ⟨0, by go_num, Nat.zero_le _, AllTo.zero, by (repeat (first | with_reducible exact Gw.refl _ | with_reducible assumption | ((with_reducible refine Gw.set ?_ ?_ _); rotate_left; (focus (first | (simp; done) | (simp; omega) | omega))) | with_reducible refine Gw.alloc ?_ _ | with_reducible refine Gw.drew ?_ | with_reducible refine Gw.drewN ?_ _ | (refine Gw.trans ?_ (by with_reducible assumption))))⟩
  case round =>
    obtain ⟨k, rfl, hk, hall, hgw⟩ := hrel
    by_cases hlt : k < l.length
    · obtain ⟨x, hx⟩ := get_of_lt hlt
      obtain ⟨b, off, rfl, hb, c0, c1, c2⟩ := (hA.gw hgw).get3 hx
      have h0 := HP.out x (mem_of_get hx)
      have Hx := Lib.hid hx
      clear hx
      by_cases h1 : x.1 = n
      · have e1 : (x.1 == n) = true := by simp [h1]
        go_wp2_with (first | (go_at_call 66; refine (s_l1In _ _ _ _).mono ?_; rintro e w' (⟨hp, rfl, rfl⟩ | ⟨hp, rfl, rfl⟩)))
        · go_ret
          exact .inl ⟨⟨x, mem_of_get Hx.out, by omega⟩, rfl, by (repeat (first | with_reducible exact Gw.refl _ | with_reducible assumption | ((with_reducible refine Gw.set ?_ ?_ _); rotate_left; (focus (first | (simp; done) | (simp; omega) | omega))) | with_reducible refine Gw.alloc ?_ _ | with_reducible refine Gw.drew ?_ | with_reducible refine Gw.drewN ?_ _ | (refine Gw.trans ?_ (by with_reducible assumption))))⟩
        · go_roundw
          case rel => exact ⟨k + 1, by go_num, by omega, AllTo.succ hall.out Hx.out (by omega), by (repeat (first | with_reducible exact Gw.refl _ | with_reducible assumption | ((with_reducible refine Gw.set ?_ ?_ _); rotate_left; (focus (first | (simp; done) | (simp; omega) | omega))) | with_reducible refine Gw.alloc ?_ _ | with_reducible refine Gw.drew ?_ | with_reducible refine Gw.drewN ?_ _ | (refine Gw.trans ?_ (by with_reducible assumption))))⟩
          case measure => simp [intOf]; omega
      · have e1 : (x.1 == n) = false := by simp [h1]
        go_wp2_with fail
        go_roundw
        case rel => exact ⟨k + 1, by go_num, by omega, AllTo.succ hall.out Hx.out (by omega), by (repeat (first | with_reducible exact Gw.refl _ | with_reducible assumption | ((with_reducible refine Gw.set ?_ ?_ _); rotate_left; (focus (first | (simp; done) | (simp; omega) | omega))) | with_reducible refine Gw.alloc ?_ _ | with_reducible refine Gw.drew ?_ | with_reducible refine Gw.drewN ?_ _ | (refine Gw.trans ?_ (by with_reducible assumption))))⟩
        case measure => simp [intOf]; omega
    · have HA : Hid (∀ x ∈ l, ¬(x.1 = n ∧ x.2.1 ≤ h ∧ h < x.2.2)) := AllTo.all hall.out (by omega)
      go_wp2_with fail
      go_ret
      exact .inr ⟨fun ⟨x, hx, hp⟩ => HA.out x hx hp, rfl, by (repeat (first | with_reducible exact Gw.refl _ | with_reducible assumption | ((with_reducible refine Gw.set ?_ ?_ _); rotate_left; (focus (first | (simp; done) | (simp; omega) | omega))) | with_reducible refine Gw.alloc ?_ _ | with_reducible refine Gw.drew ?_ | with_reducible refine Gw.drewN ?_ _ | (refine Gw.trans ?_ (by with_reducible assumption))))⟩

open Classical in
set_option maxHeartbeats 4000000 in
set_option maxRecDepth 100000 in
theorem s_OpenPlaces (A : Option Addr) (cap : Nat) (l : List (Int × Int × Int)) (h : Int) (w : World) (hl : l.length ≤ 1048576) (hA : Rd w A l) :
    Calls Try.prog 32 #[.slice A l.length cap, .int .i64 h] w fun e w' => ∃ A c, e = .returned (.tuple #[.slice A (openF l h).1.length c, .bool (openF l h).2]) ∧
      w'.ownsRow w.heap.size 3 1 (.slice A (openF l h).1.length c) (openF l h).1.length (flat (openF l h).1) ∧ Gw w w' := by
  go_enter Try.func32, Try.ntmps32
  obtain ⟨i0, hi, hzz0, hzz1, hzz2⟩ := info_parts infoInt
  go_wp2_with fail
  refine (s_wnGood _ _ _ _ hl (hA.gw (by (repeat (first | with_reducible exact Gw.refl _ | with_reducible assumption | ((with_reducible refine Gw.set ?_ ?_ _); rotate_left; (focus (first | (simp; done) | (simp; omega) | omega))) | with_reducible refine Gw.alloc ?_ _ | with_reducible refine Gw.drew ?_ | with_reducible refine Gw.drewN ?_ _ | (refine Gw.trans ?_ (by with_reducible assumption))))))).mono ?_
  rintro _ w1 (⟨hp, rfl, hb1⟩ | ⟨hp, rfl, hb1⟩)
  case inr =>
    have HP := Lib.hid hp
    clear hp
    have hno : openF l h = ([], false) := by unfold openF; rw [if_neg (fun g => HP.out g.1)]
    go_wp2_with fail
    go_ret2
    exact ⟨none, 0, ret_lb (A := none) (c := 0) hno, by rw [hno]; exact World.ownsRow_nil _ _ _ _, by (repeat (first | with_reducible exact Gw.refl _ | with_reducible assumption | ((with_reducible refine Gw.set ?_ ?_ _); rotate_left; (focus (first | (simp; done) | (simp; omega) | omega))) | with_reducible refine Gw.alloc ?_ _ | with_reducible refine Gw.drew ?_ | with_reducible refine Gw.drewN ?_ _ | (refine Gw.trans ?_ (by with_reducible assumption))))⟩
  have HP := Lib.hid hp
  clear hp
  have hc1 := hb1.cells; have hf1 := hb1.frozens; have hz1 := hb1.size; (try simp at hz1); (try have hy1 : w.heap.size < w1.heap.size := by omega); (try have hx1 : w.heap.size ≤ w1.heap.size := by omega)
  have hG1 : Gw w w1 := by (repeat (first | with_reducible exact Gw.refl _ | with_reducible assumption | ((with_reducible refine Gw.set ?_ ?_ _); rotate_left; (focus (first | (simp; done) | (simp; omega) | omega))) | with_reducible refine Gw.alloc ?_ _ | with_reducible refine Gw.drew ?_ | with_reducible refine Gw.drewN ?_ _ | (refine Gw.trans ?_ (by with_reducible assumption))))
  go_wp2_with (first | (go_at_call 60; refine (s_wnHour _ _).mono ?_; rintro e w' (⟨hp, rfl, rfl⟩ | ⟨hp, rfl, rfl⟩)))
  all_goals first
    | (have hno : openF l h = ([], false) := by unfold openF; rw [if_neg (fun g => by have := g.2; omega)]
       go_ret2
       exact ⟨none, 0, ret_lb (A := none) (c := 0) hno, by rw [hno]; exact World.ownsRow_nil _ _ _ _, by (repeat (first | with_reducible exact Gw.refl _ | with_reducible assumption | ((with_reducible refine Gw.set ?_ ?_ _); rotate_left; (focus (first | (simp; done) | (simp; omega) | omega))) | with_reducible refine Gw.alloc ?_ _ | with_reducible refine Gw.drew ?_ | with_reducible refine Gw.drewN ?_ _ | (refine Gw.trans ?_ (by with_reducible assumption))))⟩)
    | skip
  have hv : Hid (openF l h = ((l.filter (hasH h)).map (·.1), true)) := by unfold Hid openF; rw [if_pos ⟨HP.out, by omega⟩]

  go_loopw [6, 7] (fun o i wr => ∃ (k : Nat) (acc : List Int) (B : Option Addr) (c : Nat), i = .int .i64 ((k : Int) + 1) ∧ k ≤ 9 ∧ o = .slice B acc.length c ∧ acc.length ≤ k ∧
      wr.ownsRow w.heap.size 3 1 (.slice B acc.length c) acc.length (flat acc) ∧ Hid (acc = (upTo k).filter (fun q => decide (openP l q h))) ∧ Gw w wr) (fun _ i _ => 10 - (intOf i).toNat)
  case atStart => exact ⟨0, [], none, 0, by go_num, by omega, rfl, by simp, World.ownsRow_nil _ _ _ _, by unfold Hid; simp [upTo], by (repeat (first | with_reducible exact Gw.refl _ | with_reducible assumption | ((with_reducible refine Gw.set ?_ ?_ _); rotate_left; (focus (first | (simp; done) | (simp; omega) | omega))) | with_reducible refine Gw.alloc ?_ _ | with_reducible refine Gw.drew ?_ | with_reducible refine Gw.drewN ?_ _ | (refine Gw.trans ?_ (by with_reducible assumption))))⟩
  case round =>
    obtain ⟨k, acc, B, c', rfl, hk, rfl, ha1, hown, hacc, hgw⟩ := hrel
    by_cases hlt : k < 9
    · go_wp2_with fail
      refine (s_wnOpen _ _ _ _ _ _ hl (hA.gw (by (repeat (first | with_reducible exact Gw.refl _ | with_reducible assumption | ((with_reducible refine Gw.set ?_ ?_ _); rotate_left; (focus (first | (simp; done) | (simp; omega) | omega))) | with_reducible refine Gw.alloc ?_ _ | with_reducible refine Gw.drew ?_ | with_reducible refine Gw.drewN ?_ _ | (refine Gw.trans ?_ (by with_reducible assumption)))))) HP.out.1).mono ?_
      rintro _ w2 (⟨hp, rfl, hb2⟩ | ⟨hp, rfl, hb2⟩)
      · have hn : Hid (acc ++ [(k : Int) + 1] = (upTo (k + 1)).filter (fun q => decide (openP l q h))) := by
          unfold Hid; rw [upTo, List.filter_append, ← hacc.out, List.filter_cons, if_pos (by simpa using hp)]; simp
        clear hp
        have hown2 := own_gw hown hb2
        have hgw := Gw.trans hgw hb2
        go_wp2_with (at_builtin; refine wpList_push (α := Int) rfl (.tmp 24) (.tmp 26) 26 rfl w.heap.size 3 i0 _ 8 Try.underlying26 hi hzz0 hzz1 hzz2 rfl (by omega) acc B c' rfl _ ((k : Int) + 1) rfl w2.heap.size rfl rfl hown2 (by omega) (by have := hgw.size; (try simp); omega) ?_; intro acc' A' c'' w9 hacc' hl1 hl2 hown' _ hgg)
        go_roundw
        case rel => exact ⟨k + 1, acc', A', c'', by go_num, by omega, rfl, by omega, hown', by unfold Hid; rw [hacc'.out]; exact hn.out, hgg w (by (repeat (first | with_reducible exact Gw.refl _ | with_reducible assumption | ((with_reducible refine Gw.set ?_ ?_ _); rotate_left; (focus (first | (simp; done) | (simp; omega) | omega))) | with_reducible refine Gw.alloc ?_ _ | with_reducible refine Gw.drew ?_ | with_reducible refine Gw.drewN ?_ _ | (refine Gw.trans ?_ (by with_reducible assumption))))) (Nat.le_refl _)⟩
        case measure => simp [intOf]; omega
      · have hn : Hid (acc = (upTo (k + 1)).filter (fun q => decide (openP l q h))) := by
          unfold Hid; rw [upTo, List.filter_append, ← hacc.out, List.filter_cons, if_neg (by simpa using hp)]; simp
        clear hp
        have hown2 := own_gw hown hb2
        have hgw := Gw.trans hgw hb2
        go_wp2_with fail
        go_roundw
        case rel => exact ⟨k + 1, acc, B, c', by go_num, by omega, rfl, by omega, hown2, hn, by (repeat (first | with_reducible exact Gw.refl _ | with_reducible assumption | ((with_reducible refine Gw.set ?_ ?_ _); rotate_left; (focus (first | (simp; done) | (simp; omega) | omega))) | with_reducible refine Gw.alloc ?_ _ | with_reducible refine Gw.drew ?_ | with_reducible refine Gw.drewN ?_ _ | (refine Gw.trans ?_ (by with_reducible assumption))))⟩
        case measure => simp [intOf]; omega
    · obtain rfl : k = 9 := by omega
      have hfin : Hid (openF l h = (acc, true)) := by unfold Hid; rw [hv.out, hacc.out, open_eq HP.out]
      go_wp2_with fail
      go_ret2
      exact ⟨B, c', ret_lb hfin.out, by rw [hfin.out]; exact hown, by (repeat (first | with_reducible exact Gw.refl _ | with_reducible assumption | ((with_reducible refine Gw.set ?_ ?_ _); rotate_left; (focus (first | (simp; done) | (simp; omega) | omega))) | with_reducible refine Gw.alloc ?_ _ | with_reducible refine Gw.drew ?_ | with_reducible refine Gw.drewN ?_ _ | (refine Gw.trans ?_ (by with_reducible assumption))))⟩

end Go.Proofs.Ytipndibiioajmaa