/-
  Charts: spots that differ; where a spot stands in a list.
-/
import Derived.Test.YtphfaeefjcdjjaaBase
import Derived.Test.YtphfaeefjcdjjaaLaw
import Derived.Test.YtphfaeefjcdjjaaTySpot
namespace Go.Proofs.Ytphfaeefjcdjjaa
open Go.RowKit

/-- The index of the first element from i on, or -1. -/
def findF : List (Int × Int) → Int × Int → Nat → Int
  | [], _, _ => -1
  | x :: l, y, i => if x = y then (i : Int) else findF l y (i + 1)
theorem findF_bd (l : List (Int × Int)) (y : Int × Int) (i : Nat) : -1 ≤ findF l y i ∧ findF l y i < i + l.length := by
  induction l generalizing i with
  | nil => simp [findF]; omega
  | cons x l ih =>
    have := ih (i + 1)
    simp only [findF, List.length_cons]
    split <;> omega
theorem findF_iff (l : List (Int × Int)) (y : Int × Int) (i : Nat) : 0 ≤ findF l y i ↔ y ∈ l := by
  induction l generalizing i with
  | nil => simp [findF]
  | cons x l ih =>
    simp only [findF, List.mem_cons]
    split
    · rename_i h; subst h; simp
    · rename_i h
      rw [ih (i + 1)]
      exact ⟨fun h' => .inr h', fun h' => h'.resolve_left (fun e => h e.symm)⟩
set_option maxHeartbeats 2000000 in
theorem x_IndexSpot (A : Option Addr) (n c : Nat) (l : List (Int × Int)) (y1 y2 : Int) (w : World) (hn : l.length = n) (hl : n ≤ 1048576) (hA : Rd w A l) :
    Calls Try.prog 56 #[.slice A n c, .agg #[.int .i64 y1, .int .i64 y2]] w fun e w' => e = .returned (.int .i64 (findF l (y1, y2) 0)) ∧ Gw w w' := by
  have Hn : Hid (l.length = n) := hn
  clear hn
  go_enter Try.func56, Try.ntmps56
  go_wp2_with fail
  go_loopw [8] (fun i wr => ∃ k : Nat, i = .int .i64 k ∧ k ≤ n ∧ Hid (findF (l.drop k) (y1, y2) k = findF l (y1, y2) 0) ∧ Gw (w.alloc (.cells #[.int .i64 y1, .int .i64 y2] 60)) wr) (fun i _ => n - (intOf i).toNat)
  case atStart => exact ⟨0, by go_num, Nat.zero_le _, by unfold Hid; simp, by (repeat (first | with_reducible exact Gw.refl _ | with_reducible assumption | ((with_reducible refine Gw.set ?_ ?_ _); rotate_left; (focus (first | (simp; done) | (simp; omega) | omega))) | with_reducible refine Gw.alloc ?_ _ | with_reducible refine Gw.drew ?_ | with_reducible refine Gw.drewN ?_ _ | (refine Gw.trans ?_ (by with_reducible assumption))))⟩
  case round =>
    obtain ⟨k, rfl, hk, hq, hgw⟩ := hrel
    have hcr := hgw.cells
    have hzr := hgw.size
    have hzr0 : w.heap.size < wr.heap.size := by simp at hzr; omega
    by_cases hlt : k < n
    · obtain ⟨x, hx⟩ := get_of_lt (l := l) (k := k) (by rw [Hn.out]; exact hlt)
      obtain ⟨x1, x2⟩ := x
      obtain ⟨b, off, rfl, hb, c0, c1⟩ := (hA.gw (Gw.trans ((Gw.refl w).alloc _) hgw)).get2 hx
      dsimp only at c0 c1
      have hd := drop_of' hx
      clear hx
      by_cases h1 : x1 = y1
      · by_cases h2 : x2 = y2
        · have hfin : Hid (findF l (y1, y2) 0 = (k : Int)) := by unfold Hid; rw [← hq.out, hd, findF, if_pos (by rw [h1, h2])]
          have e1 : (x1 == y1) = true := by simp [h1]
          have e2 : (x2 == y2) = true := by simp [h2]
          have e3 : (y1 == x1) = true := by simp [h1]
          have e4 : (y2 == x2) = true := by simp [h2]
          clear hd
          subst h1 h2
          go_wp2_with ((with_reducible refine wp_region_gw (by kernel_rfl) (by kernel_rfl) ?_); have hcq := @GwOf.cell; (repeat (go_big_quiet_step (fail))); refine wpQuiet_nil ?_; clear hcq; rintro w' ⟨⟨w', hb⟩, rfl⟩; (try dsimp only); have hc := hb.cells; have hf := hb.frozens; have hz := hb.size; (try simp at hz); (try have hz0 : w.heap.size < w'.heap.size := (by omega)); (try have hz1 : w.heap.size + 1 < w'.heap.size := (by omega)); (try have hz2 : w.heap.size + 2 < w'.heap.size := (by omega)); (try have hz3 : w.heap.size + 3 < w'.heap.size := (by omega)); (try have hz4 : w.heap.size + 4 < w'.heap.size := (by omega)); (try have hz5 : w.heap.size + 5 < w'.heap.size := (by omega)))
          go_ret
          exact ⟨ret_int hfin.out.symm, by (repeat (first | with_reducible exact Gw.refl _ | with_reducible assumption | ((with_reducible refine Gw.set ?_ ?_ _); rotate_left; (focus (first | (simp; done) | (simp; omega) | omega))) | with_reducible refine Gw.alloc ?_ _ | with_reducible refine Gw.drew ?_ | with_reducible refine Gw.drewN ?_ _ | (refine Gw.trans ?_ (by with_reducible assumption))))⟩
        · have hn' : Hid (findF (l.drop (k + 1)) (y1, y2) (k + 1) = findF l (y1, y2) 0) := by unfold Hid; rw [← hq.out, hd, findF, if_neg (by simp [h2])]
          have e2 : (x2 == y2) = false := by simp [h2]
          have e4 : (y2 == x2) = false := by simp; exact fun h => h2 h.symm
          clear hd
          subst h1
          have H2 : Hid (¬x2 = y2) := h2
          clear h2
          go_wp2_with ((with_reducible refine wp_region_gw (by kernel_rfl) (by kernel_rfl) ?_); have hcq := @GwOf.cell; (repeat (go_big_quiet_step (fail))); refine wpQuiet_nil ?_; clear hcq; rintro w' ⟨⟨w', hb⟩, rfl⟩; (try dsimp only); have hc := hb.cells; have hf := hb.frozens; have hz := hb.size; (try simp at hz); (try have hz0 : w.heap.size < w'.heap.size := (by omega)); (try have hz1 : w.heap.size + 1 < w'.heap.size := (by omega)); (try have hz2 : w.heap.size + 2 < w'.heap.size := (by omega)); (try have hz3 : w.heap.size + 3 < w'.heap.size := (by omega)); (try have hz4 : w.heap.size + 4 < w'.heap.size := (by omega)); (try have hz5 : w.heap.size + 5 < w'.heap.size := (by omega)))
          go_roundw
          case rel => exact ⟨k + 1, by go_num, by omega, hn', by (repeat (first | with_reducible exact Gw.refl _ | with_reducible assumption | ((with_reducible refine Gw.set ?_ ?_ _); rotate_left; (focus (first | (simp; done) | (simp; omega) | omega))) | with_reducible refine Gw.alloc ?_ _ | with_reducible refine Gw.drew ?_ | with_reducible refine Gw.drewN ?_ _ | (refine Gw.trans ?_ (by with_reducible assumption))))⟩
          case measure => simp [intOf]; omega
      · have hn' : Hid (findF (l.drop (k + 1)) (y1, y2) (k + 1) = findF l (y1, y2) 0) := by unfold Hid; rw [← hq.out, hd, findF, if_neg (by simp [h1])]
        have e1 : (x1 == y1) = false := by simp [h1]
        have e3 : (y1 == x1) = false := by simp; exact fun h => h1 h.symm
        clear hd
        have H1 : Hid (¬x1 = y1) := h1
        clear h1
        go_wp2_with ((with_reducible refine wp_region_gw (by kernel_rfl) (by kernel_rfl) ?_); have hcq := @GwOf.cell; (repeat (go_big_quiet_step (fail))); refine wpQuiet_nil ?_; clear hcq; rintro w' ⟨⟨w', hb⟩, rfl⟩; (try dsimp only); have hc := hb.cells; have hf := hb.frozens; have hz := hb.size; (try simp at hz); (try have hz0 : w.heap.size < w'.heap.size := (by omega)); (try have hz1 : w.heap.size + 1 < w'.heap.size := (by omega)); (try have hz2 : w.heap.size + 2 < w'.heap.size := (by omega)); (try have hz3 : w.heap.size + 3 < w'.heap.size := (by omega)); (try have hz4 : w.heap.size + 4 < w'.heap.size := (by omega)); (try have hz5 : w.heap.size + 5 < w'.heap.size := (by omega)))
        go_roundw
        case rel => exact ⟨k + 1, by go_num, by omega, hn', by (repeat (first | with_reducible exact Gw.refl _ | with_reducible assumption | ((with_reducible refine Gw.set ?_ ?_ _); rotate_left; (focus (first | (simp; done) | (simp; omega) | omega))) | with_reducible refine Gw.alloc ?_ _ | with_reducible refine Gw.drew ?_ | with_reducible refine Gw.drewN ?_ _ | (refine Gw.trans ?_ (by with_reducible assumption))))⟩
        case measure => simp [intOf]; omega
    · have hfin : Hid (findF l (y1, y2) 0 = -1) := by unfold Hid; rw [← hq.out, List.drop_of_length_le (by rw [Hn.out]; omega)]; rfl
      go_wp2_with fail
      go_ret
      exact ⟨ret_int hfin.out.symm, by (repeat (first | with_reducible exact Gw.refl _ | with_reducible assumption | ((with_reducible refine Gw.set ?_ ?_ _); rotate_left; (focus (first | (simp; done) | (simp; omega) | omega))) | with_reducible refine Gw.alloc ?_ _ | with_reducible refine Gw.drew ?_ | with_reducible refine Gw.drewN ?_ _ | (refine Gw.trans ?_ (by with_reducible assumption))))⟩

theorem x_ContainsSpot (A : Option Addr) (n c : Nat) (l : List (Int × Int)) (y1 y2 : Int) (w : World) (hn : l.length = n) (hl : n ≤ 1048576) (hA : Rd w A l) :
    Calls Try.prog 49 #[.slice A n c, .agg #[.int .i64 y1, .int .i64 y2]] w (Tells ((y1, y2) ∈ l) w) := by
  have hf := findF_iff l (y1, y2) 0
  have hbd := findF_bd l (y1, y2) 0
  obtain ⟨q, hq⟩ : ∃ q, findF l (y1, y2) 0 = q := ⟨_, rfl⟩
  rw [hq] at hf hbd
  have Hq : Hid (findF l (y1, y2) 0 = q) := hq
  have Hf : Hid (0 ≤ q ↔ (y1, y2) ∈ l) := hf
  clear hq hf
  go_enter Try.func49, Try.ntmps49
  go_wp2_with (go_at_call 56; refine (x_IndexSpot _ _ _ _ _ _ _ hn hl (hA.gw ((Gw.refl w).alloc _))).mono ?_; rw [Hq.out]; rintro e w' ⟨rfl, hb⟩; have hc := hb.cells; have hf := hb.frozens; have hz := hb.size; (try simp at hz); (try have hz0 : w.heap.size < w'.heap.size := (by omega)); (try have hz1 : w.heap.size + 1 < w'.heap.size := (by omega)); (try have hz2 : w.heap.size + 2 < w'.heap.size := (by omega)); (try have hz3 : w.heap.size + 3 < w'.heap.size := (by omega)); (try have hz4 : w.heap.size + 4 < w'.heap.size := (by omega)); (try have hz5 : w.heap.size + 5 < w'.heap.size := (by omega)))
  go_ret
  exact tells_of (by rw [← Hf.out]; simp) (by (repeat (first | with_reducible exact Gw.refl _ | with_reducible assumption | ((with_reducible refine Gw.set ?_ ?_ _); rotate_left; (focus (first | (simp; done) | (simp; omega) | omega))) | with_reducible refine Gw.alloc ?_ _ | with_reducible refine Gw.drew ?_ | with_reducible refine Gw.drewN ?_ _ | (refine Gw.trans ?_ (by with_reducible assumption)))))

/-- A chart: spots, none of them twice, at most twelve. -/
abbrev ChartP (l : List (Int × Int)) : Prop := (∀ i x, l[i]? = some x → SpotP x.1 x.2 ∧ x ∉ l.take i) ∧ 1 ≤ l.length ∧ l.length ≤ 12
def ChTo (l : List (Int × Int)) (k : Nat) : Prop := ∀ i x, i < k → l[i]? = some x → SpotP x.1 x.2 ∧ x ∉ l.take i
theorem ChTo.succ {l : List (Int × Int)} {k : Nat} {x : (Int × Int)} (h : ChTo l k) (hx : l[k]? = some x) (hp : SpotP x.1 x.2 ∧ x ∉ l.take k) : ChTo l (k + 1) := by
  intro i y hi hy
  by_cases e : i = k
  · subst e; rw [hx] at hy; cases hy; exact hp
  · exact h i y (by omega) hy
theorem ChTo.all {l : List (Int × Int)} {k : Nat} (h : ChTo l k) (hk : l.length ≤ k) : ∀ i x, l[i]? = some x → SpotP x.1 x.2 ∧ x ∉ l.take i :=
  fun i x hx => h i x (by have := (List.getElem?_eq_some_iff.1 hx).1; omega) hx
theorem len_take_of {α : Type} {l : List α} {k : Nat} (h : k ≤ l.length) : (l.take k).length = k := by rw [List.length_take]; omega

set_option maxHeartbeats 2000000 in
theorem i_IsChart (A : Option Addr) (c : Nat) (l : List (Int × Int)) (w : World) (hl : l.length ≤ 1048576) (hA : Rd w A l) (hlc : l.length ≤ c) :
    Calls Try.prog 41 #[.slice A l.length c] w (Tells (ChartP l) w) := by
  go_enter Try.func41, Try.ntmps41
  go_wp2_with (go_at_call 31; refine (i_within _ _ _ _).mono ?_; rintro e w' (⟨hp, rfl, rfl⟩ | ⟨hp, rfl, rfl⟩))
  all_goals first | (go_ret; exact .inr ⟨fun h => by have := h.2; omega, rfl, by (repeat (first | with_reducible exact Gw.refl _ | with_reducible assumption | ((with_reducible refine Gw.set ?_ ?_ _); rotate_left; (focus (first | (simp; done) | (simp; omega) | omega))) | with_reducible refine Gw.alloc ?_ _ | with_reducible refine Gw.drew ?_ | with_reducible refine Gw.drewN ?_ _ | (refine Gw.trans ?_ (by with_reducible assumption))))⟩) | skip
  go_loopw [11] (fun i wr => ∃ k : Nat, i = .int .i64 k ∧ k ≤ l.length ∧ Hid (ChTo l k) ∧ Gw w wr) (fun i _ => l.length - (intOf i).toNat)
  case atStart => exact ⟨0, by go_num, Nat.zero_le _, fun _ _ h => absurd h (by omega), by (repeat (first | with_reducible exact Gw.refl _ | with_reducible assumption | ((with_reducible refine Gw.set ?_ ?_ _); rotate_left; (focus (first | (simp; done) | (simp; omega) | omega))) | with_reducible refine Gw.alloc ?_ _ | with_reducible refine Gw.drew ?_ | with_reducible refine Gw.drewN ?_ _ | (refine Gw.trans ?_ (by with_reducible assumption))))⟩
  case round =>
    obtain ⟨k, rfl, hk, hall, hgw⟩ := hrel
    by_cases hlt : k < l.length
    · obtain ⟨x, hx⟩ := get_of_lt hlt
      have hAr := hA.gw hgw
      have hAt := (hAr.take k)
      obtain ⟨b, off, rfl, hb, c0, c1⟩ := hAr.get2 hx
      have Hx : Hid (l[k]? = some x) := hx
      clear hx
      have hk2 : k ≤ c := by omega
      have hlk : Hid ((l.take k).length = k) := len_take_of hk
      by_cases hS : SpotP x.1 x.2
      · have HS : Hid (SpotP x.1 x.2) := hS
        by_cases hM : (x.1, x.2) ∈ l.take k
        · have HM : Hid ((x.1, x.2) ∈ l.take k) := hM
          clear hM
          go_wp2_with ((with_reducible refine wp_region_gw (by kernel_rfl) (by kernel_rfl) ?_); have hcq := @GwOf.cell; (repeat (go_big_quiet_step ((first | (go_at_call 48; exact GwOf.callT HS.out (i_IsSpot _ _ _)) | (go_at_call 49; exact GwOf.callT HM.out (x_ContainsSpot _ _ _ _ _ _ _ hlk.out (by omega) (hAt.gw (Gw.trans ((Gw.refl _).alloc _) (GwOf.gw _))))))))); refine wpQuiet_nil ?_; clear hcq; rintro w' ⟨⟨w', hb⟩, rfl⟩; (try dsimp only); have hc := hb.cells; have hf := hb.frozens; have hz := hb.size; (try simp at hz); (try have hz0 : w.heap.size < w'.heap.size := (by omega)); (try have hz1 : w.heap.size + 1 < w'.heap.size := (by omega)); (try have hz2 : w.heap.size + 2 < w'.heap.size := (by omega)); (try have hz3 : w.heap.size + 3 < w'.heap.size := (by omega)); (try have hz4 : w.heap.size + 4 < w'.heap.size := (by omega)); (try have hz5 : w.heap.size + 5 < w'.heap.size := (by omega)))
          go_ret
          exact .inr ⟨fun h => (h.1 k x Hx.out).2 HM.out, rfl, by (repeat (first | with_reducible exact Gw.refl _ | with_reducible assumption | ((with_reducible refine Gw.set ?_ ?_ _); rotate_left; (focus (first | (simp; done) | (simp; omega) | omega))) | with_reducible refine Gw.alloc ?_ _ | with_reducible refine Gw.drew ?_ | with_reducible refine Gw.drewN ?_ _ | (refine Gw.trans ?_ (by with_reducible assumption))))⟩
        · have HM : Hid (¬(x.1, x.2) ∈ l.take k) := hM
          clear hM
          go_wp2_with ((with_reducible refine wp_region_gw (by kernel_rfl) (by kernel_rfl) ?_); have hcq := @GwOf.cell; (repeat (go_big_quiet_step ((first | (go_at_call 48; exact GwOf.callT HS.out (i_IsSpot _ _ _)) | (go_at_call 49; exact GwOf.callF HM.out (x_ContainsSpot _ _ _ _ _ _ _ hlk.out (by omega) (hAt.gw (Gw.trans ((Gw.refl _).alloc _) (GwOf.gw _))))))))); refine wpQuiet_nil ?_; clear hcq; rintro w' ⟨⟨w', hb⟩, rfl⟩; (try dsimp only); have hc := hb.cells; have hf := hb.frozens; have hz := hb.size; (try simp at hz); (try have hz0 : w.heap.size < w'.heap.size := (by omega)); (try have hz1 : w.heap.size + 1 < w'.heap.size := (by omega)); (try have hz2 : w.heap.size + 2 < w'.heap.size := (by omega)); (try have hz3 : w.heap.size + 3 < w'.heap.size := (by omega)); (try have hz4 : w.heap.size + 4 < w'.heap.size := (by omega)); (try have hz5 : w.heap.size + 5 < w'.heap.size := (by omega)))
          go_roundw
          case rel => exact ⟨k + 1, by go_num, by omega, ChTo.succ hall.out Hx.out ⟨HS.out, HM.out⟩, by (repeat (first | with_reducible exact Gw.refl _ | with_reducible assumption | ((with_reducible refine Gw.set ?_ ?_ _); rotate_left; (focus (first | (simp; done) | (simp; omega) | omega))) | with_reducible refine Gw.alloc ?_ _ | with_reducible refine Gw.drew ?_ | with_reducible refine Gw.drewN ?_ _ | (refine Gw.trans ?_ (by with_reducible assumption))))⟩
          case measure => simp [intOf]; omega
      · have HS : Hid (¬SpotP x.1 x.2) := hS
        clear hS
        go_wp2_with ((with_reducible refine wp_region_gw (by kernel_rfl) (by kernel_rfl) ?_); have hcq := @GwOf.cell; (repeat (go_big_quiet_step ((go_at_call 48; exact GwOf.callF HS.out (i_IsSpot _ _ _))))); refine wpQuiet_nil ?_; clear hcq; rintro w' ⟨⟨w', hb⟩, rfl⟩; (try dsimp only); have hc := hb.cells; have hf := hb.frozens; have hz := hb.size; (try simp at hz); (try have hz0 : w.heap.size < w'.heap.size := (by omega)); (try have hz1 : w.heap.size + 1 < w'.heap.size := (by omega)); (try have hz2 : w.heap.size + 2 < w'.heap.size := (by omega)); (try have hz3 : w.heap.size + 3 < w'.heap.size := (by omega)); (try have hz4 : w.heap.size + 4 < w'.heap.size := (by omega)); (try have hz5 : w.heap.size + 5 < w'.heap.size := (by omega)))
        go_ret
        exact .inr ⟨fun h => HS.out (h.1 k x Hx.out).1, rfl, by (repeat (first | with_reducible exact Gw.refl _ | with_reducible assumption | ((with_reducible refine Gw.set ?_ ?_ _); rotate_left; (focus (first | (simp; done) | (simp; omega) | omega))) | with_reducible refine Gw.alloc ?_ _ | with_reducible refine Gw.drew ?_ | with_reducible refine Gw.drewN ?_ _ | (refine Gw.trans ?_ (by with_reducible assumption))))⟩
    · have HA : Hid (∀ i x, l[i]? = some x → SpotP x.1 x.2 ∧ x ∉ l.take i) := ChTo.all hall.out (by omega)
      go_wp2_with fail
      go_ret
      exact .inl ⟨⟨HA.out, by omega⟩, rfl, by (repeat (first | with_reducible exact Gw.refl _ | with_reducible assumption | ((with_reducible refine Gw.set ?_ ?_ _); rotate_left; (focus (first | (simp; done) | (simp; omega) | omega))) | with_reducible refine Gw.alloc ?_ _ | with_reducible refine Gw.drew ?_ | with_reducible refine Gw.drewN ?_ _ | (refine Gw.trans ?_ (by with_reducible assumption))))⟩

theorem not_mem_take {α : Type} {l : List α} {k : Nat} {x : α} (h : AllTo (fun y => ¬x = y) l k) : x ∉ l.take k := by
  intro hm
  obtain ⟨i, hi⟩ := List.mem_iff_getElem?.1 hm
  have hik : i < k := by have := (List.getElem?_eq_some_iff.1 hi).1; rw [List.length_take] at this; omega
  rw [List.getElem?_take_of_lt hik] at hi
  exact h i x hik hi rfl
theorem mem_take_of {α : Type} {l : List α} {m k : Nat} {x : α} (h : l[m]? = some x) (hm : m < k) : x ∈ l.take k :=
  List.mem_iff_getElem?.2 ⟨m, by rw [List.getElem?_take_of_lt hm]; exact h⟩

set_option maxHeartbeats 4000000 in
theorem s_chGood (A : Option Addr) (c : Nat) (l : List (Int × Int)) (w : World) (hl : l.length ≤ 1048576) (hA : Rd w A l) (hlc : l.length ≤ c) :
    Calls Try.prog 45 #[.slice A l.length c] w (Tells (ChartP l) w) := by
  go_enter Try.func45, Try.ntmps45
  go_wp2_with fail
  go_loopw [9] (fun i wr => ∃ k : Nat, i = .int .i64 k ∧ k ≤ l.length ∧ Hid (ChTo l k) ∧ Gw w wr) (fun i _ => l.length - (intOf i).toNat)
  case atStart => exact ⟨0, by go_num, Nat.zero_le _, fun _ _ h => absurd h (by omega), by (repeat (first | with_reducible exact Gw.refl _ | with_reducible assumption | ((with_reducible refine Gw.set ?_ ?_ _); rotate_left; (focus (first | (simp; done) | (simp; omega) | omega))) | with_reducible refine Gw.alloc ?_ _ | with_reducible refine Gw.drew ?_ | with_reducible refine Gw.drewN ?_ _ | (refine Gw.trans ?_ (by with_reducible assumption))))⟩
  case round =>
    obtain ⟨wo, rfl⟩ : ∃ wo : World, wo = wr := ⟨_, rfl⟩
    obtain ⟨k, rfl, hk, hall, hgw⟩ := hrel
    by_cases hlt : k < l.length
    · obtain ⟨x, hx⟩ := get_of_lt hlt
      obtain ⟨x1, x2⟩ := x
      have hAr := hA.gw hgw
      obtain ⟨b, off, rfl, hb, c0, c1⟩ := hAr.get2 hx
      dsimp only at c0 c1
      have Hx : Hid (l[k]? = some (x1, x2)) := hx; clear hx
      have hk2 : k ≤ c := by omega
      go_wp2_with (first | (go_at_call 54; refine (s_stGood _ _ _).mono ?_; rintro e w' (⟨hp, rfl, hb⟩ | ⟨hp, rfl, hb⟩) <;> (have hc := hb.cells; have hf := hb.frozens; have hz := hb.size; (try simp at hz); (try have hz0 : w.heap.size < w'.heap.size := (by omega)); (try have hz1 : w.heap.size + 1 < w'.heap.size := (by omega)); (try have hz2 : w.heap.size + 2 < w'.heap.size := (by omega)); (try have hz3 : w.heap.size + 3 < w'.heap.size := (by omega)); (try have hz4 : w.heap.size + 4 < w'.heap.size := (by omega)); (try have hz5 : w.heap.size + 5 < w'.heap.size := (by omega)))))
      all_goals first
        | (go_ret
           exact .inr ⟨fun h => by have := (h.1 k _ Hx.out).1; dsimp only at this; omega, rfl, by (repeat (first | with_reducible exact Gw.refl _ | with_reducible assumption | ((with_reducible refine Gw.set ?_ ?_ _); rotate_left; (focus (first | (simp; done) | (simp; omega) | omega))) | with_reducible refine Gw.alloc ?_ _ | with_reducible refine Gw.drew ?_ | with_reducible refine Gw.drewN ?_ _ | (refine Gw.trans ?_ (by with_reducible assumption))))⟩)
        | skip
      have Hok : Hid (SpotP x1 x2) := by unfold Hid; omega
      have HW := Lib.hid hb
      go_loopw [21] (fun i w2 => ∃ m : Nat, i = .int .i64 m ∧ m ≤ k ∧ Hid (AllTo (fun y : (Int × Int) => ¬(x1, x2) = y) l m) ∧ Gw (wo.alloc (.cells #[.int .i64 x1, .int .i64 x2] 60)) w2) (fun i _ => k - (intOf i).toNat)
      case atStart => exact ⟨0, by go_num, Nat.zero_le _, AllTo.zero, by (repeat (first | with_reducible exact Gw.refl _ | with_reducible assumption | ((with_reducible refine Gw.set ?_ ?_ _); rotate_left; (focus (first | (simp; done) | (simp; omega) | omega))) | with_reducible refine Gw.alloc ?_ _ | with_reducible refine Gw.drew ?_ | with_reducible refine Gw.drewN ?_ _ | (refine Gw.trans ?_ (by with_reducible assumption))))⟩
      case round =>
        obtain ⟨m, rfl, hm, hin, hgi⟩ := hrel
        have hci := hgi.cells
        have hzi := hgi.size
        (try simp at hzi)
        have hzi0 : wo.heap.size < wr.heap.size := by omega
        by_cases hlm : m < k
        · obtain ⟨y, hy⟩ := get_of_lt (l := l) (k := m) (by omega)
          obtain ⟨y1, y2⟩ := y
          obtain ⟨b', off', hbe, hb', d0, d1⟩ := hAr.get2 hy
          simp only [Option.some.injEq, Addr.mk.injEq, and_true] at hbe
          obtain ⟨rfl, rfl⟩ := hbe
          dsimp only at d0 d1
          have Hy : Hid (l[m]? = some (y1, y2)) := hy; clear hy
          by_cases h1 : x1 = y1
          · by_cases h2 : x2 = y2
            · have e1 : (x1 == y1) = true := by simp [h1]
              have e2 : (x2 == y2) = true := by simp [h2]
              have He : Hid (x1 = y1 ∧ x2 = y2) := ⟨h1, h2⟩
              clear h1 h2
              go_wp2_with fail
              go_ret
              exact .inr ⟨fun h => by have := (h.1 k _ Hx.out).2; rw [He.out.1, He.out.2] at this; exact this (mem_take_of Hy.out hlm), rfl, by (repeat (first | with_reducible exact Gw.refl _ | with_reducible assumption | ((with_reducible refine Gw.set ?_ ?_ _); rotate_left; (focus (first | (simp; done) | (simp; omega) | omega))) | with_reducible refine Gw.alloc ?_ _ | with_reducible refine Gw.drew ?_ | with_reducible refine Gw.drewN ?_ _ | (refine Gw.trans ?_ (by with_reducible assumption))))⟩
            · have e1 : (x1 == y1) = true := by simp [h1]
              have e2 : (x2 == y2) = false := by simp [h2]
              have He : Hid (¬(x1, x2) = (y1, y2)) := by unfold Hid; simp [h2]
              clear h1 h2
              go_wp2_with fail
              go_roundw
              case rel => exact ⟨m + 1, by go_num, by omega, AllTo.succ hin.out Hy.out He.out, by (repeat (first | with_reducible exact Gw.refl _ | with_reducible assumption | ((with_reducible refine Gw.set ?_ ?_ _); rotate_left; (focus (first | (simp; done) | (simp; omega) | omega))) | with_reducible refine Gw.alloc ?_ _ | with_reducible refine Gw.drew ?_ | with_reducible refine Gw.drewN ?_ _ | (refine Gw.trans ?_ (by with_reducible assumption))))⟩
              case measure => simp [intOf]; omega
          · have e1 : (x1 == y1) = false := by simp [h1]
            have He : Hid (¬(x1, x2) = (y1, y2)) := by unfold Hid; simp [h1]
            clear h1
            go_wp2_with fail
            go_roundw
            case rel => exact ⟨m + 1, by go_num, by omega, AllTo.succ hin.out Hy.out He.out, by (repeat (first | with_reducible exact Gw.refl _ | with_reducible assumption | ((with_reducible refine Gw.set ?_ ?_ _); rotate_left; (focus (first | (simp; done) | (simp; omega) | omega))) | with_reducible refine Gw.alloc ?_ _ | with_reducible refine Gw.drew ?_ | with_reducible refine Gw.drewN ?_ _ | (refine Gw.trans ?_ (by with_reducible assumption))))⟩
            case measure => simp [intOf]; omega
        · obtain rfl : m = k := by omega
          go_wp2_with fail
          go_roundw
          case rel => exact ⟨m + 1, by go_num, by omega, ChTo.succ hall.out Hx.out ⟨Hok.out, not_mem_take hin.out⟩, by (repeat (first | with_reducible exact Gw.refl _ | with_reducible assumption | ((with_reducible refine Gw.set ?_ ?_ _); rotate_left; (focus (first | (simp; done) | (simp; omega) | omega))) | with_reducible refine Gw.alloc ?_ _ | with_reducible refine Gw.drew ?_ | with_reducible refine Gw.drewN ?_ _ | (refine Gw.trans ?_ (by with_reducible assumption))))⟩
          case measure => simp [intOf]; omega
    · have HA : Hid (∀ i x, l[i]? = some x → SpotP x.1 x.2 ∧ x ∉ l.take i) := ChTo.all hall.out (by omega)
      go_wp2_with (first | (go_at_call 26; refine (s_l1In _ _ _ _).mono ?_; rintro e w' (⟨hp, rfl, rfl⟩ | ⟨hp, rfl, rfl⟩)))
      all_goals
        go_ret
        first
          | exact .inl ⟨⟨HA.out, by omega⟩, rfl, by (repeat (first | with_reducible exact Gw.refl _ | with_reducible assumption | ((with_reducible refine Gw.set ?_ ?_ _); rotate_left; (focus (first | (simp; done) | (simp; omega) | omega))) | with_reducible refine Gw.alloc ?_ _ | with_reducible refine Gw.drew ?_ | with_reducible refine Gw.drewN ?_ _ | (refine Gw.trans ?_ (by with_reducible assumption))))⟩
          | exact .inr ⟨fun h => by have := h.2; omega, rfl, by (repeat (first | with_reducible exact Gw.refl _ | with_reducible assumption | ((with_reducible refine Gw.set ?_ ?_ _); rotate_left; (focus (first | (simp; done) | (simp; omega) | omega))) | with_reducible refine Gw.alloc ?_ _ | with_reducible refine Gw.drew ?_ | with_reducible refine Gw.drewN ?_ _ | (refine Gw.trans ?_ (by with_reducible assumption))))⟩

end Go.Proofs.Ytphfaeefjcdjjaa
