/-
  Sections: whose is a player, which is the loudest, what share has one.
-/
import Derived.Test.YtopaekijhkfhpaaSec
import Derived.Test.YtopaekijhkfhpaaNum
namespace Go.Proofs.Ytopaekijhkfhpaa
open Go.RowKit

abbrev HasP (l : List Sec) (i : Int) : Prop := SecsP l ∧ 0 ≤ i ∧ i ≤ (l.length : Int) - 1

theorem s_seHas (A : Option Addr) (c : Nat) (l : List Sec) (i : Int) (w : World) (hl : l.length ≤ 1048576) (hz : ∀ x ∈ l, x.1.size ≤ 9223372036854775807) (hA : Rd w A l) (_hlc : l.length ≤ c) :
    Calls Try.prog 47 #[.slice A l.length c, .int .i64 i] w (Tells (HasP l i) w) := by
  go_enter Try.func47, Try.ntmps47
  go_wp2_with fail
  refine (s_seGood _ _ _ _ hl hz hA).mono ?_
  rintro _ w1 (⟨hp, rfl, hb1⟩ | ⟨hp, rfl, hb1⟩)
  case inr =>
    have HP := Lib.hid hp
    clear hp
    go_wp2_with fail
    go_ret
    exact .inr ⟨fun h => HP.out h.1, rfl, hb1⟩
  have HP := Lib.hid hp
  clear hp
  go_wp2_with (first | (go_at_call 36; refine (s_l1In _ _ _ _).mono ?_; rintro e w' (⟨hp, rfl, rfl⟩ | ⟨hp, rfl, rfl⟩)))
  all_goals first
    | (go_ret
       exact .inl ⟨⟨HP.out, by omega⟩, rfl, hb1⟩)
    | (go_ret
       exact .inr ⟨fun h => by have := h.2; omega, rfl, hb1⟩)
theorem i_isSection (A : Option Addr) (c : Nat) (l : List Sec) (i : Int) (w : World) (hl : l.length ≤ 1048576) (hz : ∀ x ∈ l, x.1.size ≤ 9223372036854775807) (hA : Rd w A l) (hlc : l.length ≤ c) :
    Calls Try.prog 48 #[.slice A l.length c, .int .i64 i] w (Tells (HasP l i) w) := by
  go_enter Try.func48, Try.ntmps48
  go_wp2_with fail
  refine (i_AreSections _ _ _ _ hl hz hA hlc).mono ?_
  rintro _ w1 (⟨hp, rfl, hb1⟩ | ⟨hp, rfl, hb1⟩)
  case inr =>
    have HP := Lib.hid hp
    clear hp
    go_wp2_with fail
    go_ret
    exact .inr ⟨fun h => HP.out h.1, rfl, hb1⟩
  have HP := Lib.hid hp
  clear hp
  go_wp2_with (first | (go_at_call 41; refine (i_within _ _ _ _).mono ?_; rintro e w' (⟨hp, rfl, rfl⟩ | ⟨hp, rfl, rfl⟩)))
  all_goals first
    | (go_ret
       exact .inl ⟨⟨HP.out, by omega⟩, rfl, hb1⟩)
    | (go_ret
       exact .inr ⟨fun h => by have := h.2; omega, rfl, hb1⟩)

/-! ### Whose is a player -/
def secGo : List Sec → Int → Int → Int × Bool
  | [], _, _ => (0, false)
  | x :: l, p, i => if p < x.2.1 then (i, true) else secGo l (p - x.2.1) (i + 1)
theorem secGo_at {l : List Sec} {k : Nat} {x : Sec} {p : Int} (hx : l[k]? = some x) (h : p < x.2.1) : secGo (l.drop k) p k = ((k : Int), true) := by
  rw [drop_of' hx, secGo, if_pos h]
theorem secGo_next {l : List Sec} {k : Nat} {x : Sec} {p : Int} (hx : l[k]? = some x) (h : ¬p < x.2.1) : secGo (l.drop k) p k = secGo (l.drop (k + 1)) (p - x.2.1) ((k + 1 : Nat) : Int) := by
  rw [drop_of' hx, secGo, if_neg h]
  simp
theorem secGo_out {l : List Sec} : ∀ {p i : Int}, (∀ x ∈ l, 1 ≤ x.2.1 ∧ x.2.1 ≤ 60) → ssum l ≤ p → secGo l p i = (0, false) := by
  induction l with
  | nil => intro p i _ _; rfl
  | cons x l ih =>
    intro p i h hp
    have h1 := ssum_bd (fun y hy => h y (List.mem_cons_of_mem _ hy))
    rw [ssum_cons] at hp
    rw [secGo, if_neg (by omega)]
    exact ih (fun y hy => h y (List.mem_cons_of_mem _ hy)) (by omega)
open Classical in
noncomputable def sectF (l : List Sec) (p : Int) : Int × Bool := if SecsP l ∧ 0 ≤ p then secGo l p 0 else (0, false)
theorem sectF_bad {l : List Sec} {p : Int} (h : ¬(SecsP l ∧ 0 ≤ p)) : sectF l p = (0, false) := by unfold sectF; rw [if_neg h]
theorem sectF_good {l : List Sec} {p : Int} (h : SecsP l) (h0 : 0 ≤ p) : sectF l p = secGo l p 0 := by unfold sectF; rw [if_pos ⟨h, h0⟩]
theorem sectF_out {l : List Sec} {p : Int} (h : SecsP l) (h0 : ssum l ≤ p) : sectF l p = (0, false) := by
  unfold sectF; split
  · exact secGo_out h.size h0
  · rfl

/-! ### The loudest one -/
def loud (x : Sec) : Int := x.2.1 * x.2.2
theorem loud_bd {x : Sec} (h : SecP x) : 0 ≤ loud x ∧ loud x ≤ 6000 := by
  obtain ⟨_, ⟨h1, h2⟩, h3, h4⟩ := h
  refine ⟨Int.mul_nonneg (by omega) h3, ?_⟩
  have := Int.mul_le_mul h2 h4 h3 (by omega)
  simpa [loud] using this
def louder (l : List Sec) (i j : Nat) : Prop := ∀ x y, l[i]? = some x → l[j]? = some y → loud y < loud x
open Classical in
noncomputable def bst (l : List Sec) : Nat → Nat
  | 0 => 0
  | k + 1 => if louder l k (bst l k) then k else bst l k
open Classical in
noncomputable def loudestF (l : List Sec) : Int × Bool := if SecsP l then ((bst l l.length : Int), true) else (0, false)
theorem loudestF_bad {l : List Sec} (h : ¬SecsP l) : loudestF l = (0, false) := by unfold loudestF; rw [if_neg h]
theorem loudestF_good {l : List Sec} (h : SecsP l) : loudestF l = ((bst l l.length : Int), true) := by unfold loudestF; rw [if_pos h]

set_option maxHeartbeats 4000000 in
theorem s_LoudestSection (A : Option Addr) (c : Nat) (l : List Sec) (w : World) (hl : l.length ≤ 1048576) (hz : ∀ x ∈ l, x.1.size ≤ 9223372036854775807) (hA : Rd w A l) (_hlc : l.length ≤ c) :
    Calls Try.prog 23 #[.slice A l.length c] w fun e w' => e = .returned (.tuple #[.int .i64 (loudestF l).1, .bool (loudestF l).2]) ∧ Gw w w' := by
  go_enter Try.func23, Try.ntmps23
  go_wp2_with fail
  refine (s_seGood _ _ _ _ hl hz hA).mono ?_
  rintro _ w1 (⟨hp, rfl, hb1⟩ | ⟨hp, rfl, hb1⟩)
  case inr =>
    have hv : Hid (loudestF l = (0, false)) := loudestF_bad hp
    clear hp
    go_wp2_with fail
    go_ret2
    exact ⟨ret_ib hv.out, hb1⟩
  have HP := Lib.hid hp
  have h1 := hp.2.2.1.1
  clear hp
  go_wp2_with fail
  go_loopw [4, 12] (fun q i wr => ∃ (k m : Nat), i = .int .i64 k ∧ q = .int .i64 m ∧ k ≤ l.length ∧ m < l.length ∧ Hid (m = bst l k) ∧ Gw w wr) (fun q i _ => l.length - (intOf i).toNat)
  case atStart => exact ⟨0, 0, by go_num, by go_num, Nat.zero_le _, by omega, rfl, hb1⟩
  case round =>
    obtain ⟨k, m, rfl, rfl, hk, hm, hbst, hgw⟩ := hrel
    by_cases hlt : k < l.length
    · obtain ⟨x, hx⟩ := get_of_lt hlt
      obtain ⟨y, hy⟩ := get_of_lt hm
      obtain ⟨x1, x2, x3⟩ := x
      obtain ⟨y1, y2, y3⟩ := y
      have hxl : 0 ≤ x2 * x3 ∧ x2 * x3 ≤ 6000 := loud_bd (HP.out.1 _ (mem_of_get hx))
      have hyl : 0 ≤ y2 * y3 ∧ y2 * y3 ≤ 6000 := loud_bd (HP.out.1 _ (mem_of_get hy))
      have hAr := hA.gw hgw
      obtain ⟨b, off, hae, hb, c0, c1, c2⟩ := hAr.getS hx
      subst hae
      obtain ⟨b', off', hae, hb', d0, d1, d2⟩ := hAr.getS hy
      simp only [Option.some.injEq, Addr.mk.injEq, and_true] at hae
      obtain ⟨rfl, rfl⟩ := hae
      dsimp only at c0 c1 c2 d0 d1 d2
      have Hx := Lib.hid hx
      have Hy := Lib.hid hy
      clear hx hy
      have hbb : b < wr.heap.size + 1 := by omega
      have hw1 : IntKind.i64.wrap (x2 * x3) = x2 * x3 := IntWalk.i64_in _ (by omega)
      have hw2 : IntKind.i64.wrap (y2 * y3) = y2 * y3 := IntWalk.i64_in _ (by omega)
      by_cases hgt : y2 * y3 < x2 * x3
      · have hn : Hid (k = bst l (k + 1)) := by
          unfold Hid; rw [bst, if_pos]
          intro x y hx hy
          rw [Hx.out] at hx; rw [← hbst.out, Hy.out] at hy
          cases hx; cases hy
          exact hgt
        have e1 : decide (x2 * x3 > y2 * y3) = true := by simpa using hgt
        go_wp2_with ((with_reducible refine wp_region_gw (by kernel_rfl) (by kernel_rfl) ?_); have hcq := @GwOf.cell; (repeat (go_big_quiet_step (fail))); refine wpQuiet_nil ?_; clear hcq; rintro w' ⟨⟨w', hb⟩, rfl⟩; (try dsimp only); have hc := hb.cells; have hf := hb.frozens; have hz := hb.size; (try simp at hz); (try have hz0 : w.heap.size < w'.heap.size := (by omega)); (try have hz1 : w.heap.size + 1 < w'.heap.size := (by omega)); (try have hz2 : w.heap.size + 2 < w'.heap.size := (by omega)); (try have hz3 : w.heap.size + 3 < w'.heap.size := (by omega)); (try have hz4 : w.heap.size + 4 < w'.heap.size := (by omega)); (try have hz5 : w.heap.size + 5 < w'.heap.size := (by omega)))
        go_roundw
        case rel => exact ⟨k + 1, k, by go_num, by go_num, by omega, by omega, hn, by (repeat (first | with_reducible exact Gw.refl _ | with_reducible assumption | ((with_reducible refine Gw.set ?_ ?_ _); rotate_left; (focus (first | (simp; done) | (simp; omega) | omega))) | with_reducible refine Gw.alloc ?_ _ | with_reducible refine Gw.drew ?_ | with_reducible refine Gw.drewN ?_ _ | (refine Gw.trans ?_ (by with_reducible assumption))))⟩
        case measure => simp [intOf]; omega
      · have hn : Hid (m = bst l (k + 1)) := by
          unfold Hid; rw [bst, if_neg]
          · exact hbst.out
          · intro h
            exact hgt (h (x1, x2, x3) (y1, y2, y3) Hx.out (by rw [← hbst.out]; exact Hy.out))
        have e1 : decide (x2 * x3 > y2 * y3) = false := by simpa using hgt
        go_wp2_with ((with_reducible refine wp_region_gw (by kernel_rfl) (by kernel_rfl) ?_); have hcq := @GwOf.cell; (repeat (go_big_quiet_step (fail))); refine wpQuiet_nil ?_; clear hcq; rintro w' ⟨⟨w', hb⟩, rfl⟩; (try dsimp only); have hc := hb.cells; have hf := hb.frozens; have hz := hb.size; (try simp at hz); (try have hz0 : w.heap.size < w'.heap.size := (by omega)); (try have hz1 : w.heap.size + 1 < w'.heap.size := (by omega)); (try have hz2 : w.heap.size + 2 < w'.heap.size := (by omega)); (try have hz3 : w.heap.size + 3 < w'.heap.size := (by omega)); (try have hz4 : w.heap.size + 4 < w'.heap.size := (by omega)); (try have hz5 : w.heap.size + 5 < w'.heap.size := (by omega)))
        go_roundw
        case rel => exact ⟨k + 1, m, by go_num, by go_num, by omega, by omega, hn, by (repeat (first | with_reducible exact Gw.refl _ | with_reducible assumption | ((with_reducible refine Gw.set ?_ ?_ _); rotate_left; (focus (first | (simp; done) | (simp; omega) | omega))) | with_reducible refine Gw.alloc ?_ _ | with_reducible refine Gw.drew ?_ | with_reducible refine Gw.drewN ?_ _ | (refine Gw.trans ?_ (by with_reducible assumption))))⟩
        case measure => simp [intOf]; omega
    · obtain rfl : k = l.length := by omega
      have hfin : Hid (loudestF l = ((m : Int), true)) := by unfold Hid; rw [loudestF_good HP.out, hbst.out]
      go_wp2_with fail
      go_ret2
      exact ⟨ret_ib hfin.out, by (repeat (first | with_reducible exact Gw.refl _ | with_reducible assumption | ((with_reducible refine Gw.set ?_ ?_ _); rotate_left; (focus (first | (simp; done) | (simp; omega) | omega))) | with_reducible refine Gw.alloc ?_ _ | with_reducible refine Gw.drew ?_ | with_reducible refine Gw.drewN ?_ _ | (refine Gw.trans ?_ (by with_reducible assumption))))⟩

set_option maxHeartbeats 4000000 in
theorem i_LoudestSection (A : Option Addr) (c : Nat) (l : List Sec) (w : World) (hl : l.length ≤ 1048576) (hz : ∀ x ∈ l, x.1.size ≤ 9223372036854775807) (hA : Rd w A l) (hlc : l.length ≤ c) :
    Calls Try.prog 22 #[.slice A l.length c] w fun e w' => e = .returned (.tuple #[.int .i64 (loudestF l).1, .bool (loudestF l).2]) ∧ Gw w w' := by
  go_enter Try.func22, Try.ntmps22
  go_wp2_with fail
  refine (i_AreSections _ _ _ _ hl hz hA hlc).mono ?_
  rintro _ w1 (⟨hp, rfl, hb1⟩ | ⟨hp, rfl, hb1⟩)
  case inr =>
    have hv : Hid (loudestF l = (0, false)) := loudestF_bad hp
    clear hp
    go_wp2_with fail
    go_ret2
    exact ⟨ret_ib hv.out, hb1⟩
  have HP := Lib.hid hp
  have h1 := hp.2.2.1.1
  clear hp
  go_wp2_with fail
  go_loopw [4, 12] (fun q i wr => ∃ (k m : Nat), i = .int .i64 k ∧ q = .int .i64 m ∧ k ≤ l.length ∧ m < l.length ∧ Hid (m = bst l k) ∧ Gw w wr) (fun q i _ => l.length - (intOf i).toNat)
  case atStart => exact ⟨0, 0, by go_num, by go_num, Nat.zero_le _, by omega, rfl, hb1⟩
  case round =>
    obtain ⟨k, m, rfl, rfl, hk, hm, hbst, hgw⟩ := hrel
    by_cases hlt : k < l.length
    · obtain ⟨x, hx⟩ := get_of_lt hlt
      obtain ⟨y, hy⟩ := get_of_lt hm
      obtain ⟨x1, x2, x3⟩ := x
      obtain ⟨y1, y2, y3⟩ := y
      have hxl : 0 ≤ x2 * x3 ∧ x2 * x3 ≤ 6000 := loud_bd (HP.out.1 _ (mem_of_get hx))
      have hyl : 0 ≤ y2 * y3 ∧ y2 * y3 ≤ 6000 := loud_bd (HP.out.1 _ (mem_of_get hy))
      have hAr := hA.gw hgw
      obtain ⟨b, off, hae, hb, c0, c1, c2⟩ := hAr.getS hx
      subst hae
      obtain ⟨b', off', hae, hb', d0, d1, d2⟩ := hAr.getS hy
      simp only [Option.some.injEq, Addr.mk.injEq, and_true] at hae
      obtain ⟨rfl, rfl⟩ := hae
      dsimp only at c0 c1 c2 d0 d1 d2
      have Hx := Lib.hid hx
      have Hy := Lib.hid hy
      clear hx hy
      have hbb : b < wr.heap.size + 1 := by omega
      have hw1 : IntKind.i64.wrap (x2 * x3) = x2 * x3 := IntWalk.i64_in _ (by omega)
      have hw2 : IntKind.i64.wrap (y2 * y3) = y2 * y3 := IntWalk.i64_in _ (by omega)
      by_cases hgt : y2 * y3 < x2 * x3
      · have hn : Hid (k = bst l (k + 1)) := by
          unfold Hid; rw [bst, if_pos]
          intro x y hx hy
          rw [Hx.out] at hx; rw [← hbst.out, Hy.out] at hy
          cases hx; cases hy
          exact hgt
        have e1 : decide (x2 * x3 > y2 * y3) = true := by simpa using hgt
        go_wp2_with ((with_reducible refine wp_region_gw (by kernel_rfl) (by kernel_rfl) ?_); have hcq := @GwOf.cell; (repeat (go_big_quiet_step (fail))); refine wpQuiet_nil ?_; clear hcq; rintro w' ⟨⟨w', hb⟩, rfl⟩; (try dsimp only); have hc := hb.cells; have hf := hb.frozens; have hz := hb.size; (try simp at hz); (try have hz0 : w.heap.size < w'.heap.size := (by omega)); (try have hz1 : w.heap.size + 1 < w'.heap.size := (by omega)); (try have hz2 : w.heap.size + 2 < w'.heap.size := (by omega)); (try have hz3 : w.heap.size + 3 < w'.heap.size := (by omega)); (try have hz4 : w.heap.size + 4 < w'.heap.size := (by omega)); (try have hz5 : w.heap.size + 5 < w'.heap.size := (by omega)))
        go_roundw
        case rel => exact ⟨k + 1, k, by go_num, by go_num, by omega, by omega, hn, by (repeat (first | with_reducible exact Gw.refl _ | with_reducible assumption | ((with_reducible refine Gw.set ?_ ?_ _); rotate_left; (focus (first | (simp; done) | (simp; omega) | omega))) | with_reducible refine Gw.alloc ?_ _ | with_reducible refine Gw.drew ?_ | with_reducible refine Gw.drewN ?_ _ | (refine Gw.trans ?_ (by with_reducible assumption))))⟩
        case measure => simp [intOf]; omega
      · have hn : Hid (m = bst l (k + 1)) := by
          unfold Hid; rw [bst, if_neg]
          · exact hbst.out
          · intro h
            exact hgt (h (x1, x2, x3) (y1, y2, y3) Hx.out (by rw [← hbst.out]; exact Hy.out))
        have e1 : decide (x2 * x3 > y2 * y3) = false := by simpa using hgt
        go_wp2_with ((with_reducible refine wp_region_gw (by kernel_rfl) (by kernel_rfl) ?_); have hcq := @GwOf.cell; (repeat (go_big_quiet_step (fail))); refine wpQuiet_nil ?_; clear hcq; rintro w' ⟨⟨w', hb⟩, rfl⟩; (try dsimp only); have hc := hb.cells; have hf := hb.frozens; have hz := hb.size; (try simp at hz); (try have hz0 : w.heap.size < w'.heap.size := (by omega)); (try have hz1 : w.heap.size + 1 < w'.heap.size := (by omega)); (try have hz2 : w.heap.size + 2 < w'.heap.size := (by omega)); (try have hz3 : w.heap.size + 3 < w'.heap.size := (by omega)); (try have hz4 : w.heap.size + 4 < w'.heap.size := (by omega)); (try have hz5 : w.heap.size + 5 < w'.heap.size := (by omega)))
        go_roundw
        case rel => exact ⟨k + 1, m, by go_num, by go_num, by omega, by omega, hn, by (repeat (first | with_reducible exact Gw.refl _ | with_reducible assumption | ((with_reducible refine Gw.set ?_ ?_ _); rotate_left; (focus (first | (simp; done) | (simp; omega) | omega))) | with_reducible refine Gw.alloc ?_ _ | with_reducible refine Gw.drew ?_ | with_reducible refine Gw.drewN ?_ _ | (refine Gw.trans ?_ (by with_reducible assumption))))⟩
        case measure => simp [intOf]; omega
    · obtain rfl : k = l.length := by omega
      have hfin : Hid (loudestF l = ((m : Int), true)) := by unfold Hid; rw [loudestF_good HP.out, hbst.out]
      go_wp2_with fail
      go_ret2
      exact ⟨ret_ib hfin.out, by (repeat (first | with_reducible exact Gw.refl _ | with_reducible assumption | ((with_reducible refine Gw.set ?_ ?_ _); rotate_left; (focus (first | (simp; done) | (simp; omega) | omega))) | with_reducible refine Gw.alloc ?_ _ | with_reducible refine Gw.drew ?_ | with_reducible refine Gw.drewN ?_ _ | (refine Gw.trans ?_ (by with_reducible assumption))))⟩


/-! ### Shares -/
def loudSum (l : List Sec) : Int := (l.map loud).sum
theorem loudSum_snoc (l : List Sec) (x : Sec) : loudSum (l ++ [x]) = loudSum l + loud x := by simp [loudSum]
set_option maxHeartbeats 2000000 in
theorem s_seLoud (A : Option Addr) (c : Nat) (l : List Sec) (w : World) (hl : l.length ≤ 1048576) (hA : Rd w A l) (hP : ∀ x ∈ l, SecP x) :
    Calls Try.prog 53 #[.slice A l.length c] w fun e w' => e = .returned (.int .i64 (loudSum l)) ∧ (0 ≤ loudSum l ∧ loudSum l ≤ 6000 * l.length) ∧ Gw w w' := by
  have HP := Lib.hid hP
  clear hP
  go_enter Try.func53, Try.ntmps53
  go_wp2_with fail
  go_loopw [3, 8] (fun q i wr => ∃ (k : Nat) (v : Int), i = .int .i64 k ∧ q = .int .i64 v ∧ k ≤ l.length ∧ 0 ≤ v ∧ v ≤ 6000 * k ∧ Hid (v = loudSum (l.take k)) ∧ Gw w wr) (fun _ i _ => l.length - (intOf i).toNat)
  case atStart => exact ⟨0, 0, by go_num, by go_num, Nat.zero_le _, by omega, by omega, by simp [Hid, loudSum], by (repeat (first | with_reducible exact Gw.refl _ | with_reducible assumption | ((with_reducible refine Gw.set ?_ ?_ _); rotate_left; (focus (first | (simp; done) | (simp; omega) | omega))) | with_reducible refine Gw.alloc ?_ _ | with_reducible refine Gw.drew ?_ | with_reducible refine Gw.drewN ?_ _ | (refine Gw.trans ?_ (by with_reducible assumption))))⟩
  case round =>
    obtain ⟨k, v, rfl, rfl, hk, hv0, hv1, hv, hgw⟩ := hrel
    by_cases hlt : k < l.length
    · obtain ⟨x, hx⟩ := get_of_lt hlt
      obtain ⟨x1, x2, x3⟩ := x
      have hxp := HP.out _ (mem_of_get hx)
      have hm : 0 ≤ x2 * x3 ∧ x2 * x3 ≤ 6000 := loud_bd hxp
      obtain ⟨b, off, rfl, hb, c0, c1, c2⟩ := (hA.gw hgw).getS hx
      dsimp only at c0 c1 c2
      have hvn : Hid (v + x2 * x3 = loudSum (l.take (k + 1))) := by unfold Hid; rw [take_succ_of hx, loudSum_snoc, hv.out]; rfl
      clear hx hxp
      go_wp2_with fail
      go_roundw
      case rel => exact ⟨k + 1, v + x2 * x3, by go_num, by go_num, by omega, by omega, by omega, hvn, by (repeat (first | with_reducible exact Gw.refl _ | with_reducible assumption | ((with_reducible refine Gw.set ?_ ?_ _); rotate_left; (focus (first | (simp; done) | (simp; omega) | omega))) | with_reducible refine Gw.alloc ?_ _ | with_reducible refine Gw.drew ?_ | with_reducible refine Gw.drewN ?_ _ | (refine Gw.trans ?_ (by with_reducible assumption))))⟩
      case measure => simp [intOf]; omega
    · have hfin : Hid (v = loudSum l) := by unfold Hid; rw [hv.out, List.take_of_length_le (by omega)]
      go_wp2_with fail
      go_ret
      exact ⟨ret_int hfin.out, by have := hfin.out; omega, by (repeat (first | with_reducible exact Gw.refl _ | with_reducible assumption | ((with_reducible refine Gw.set ?_ ?_ _); rotate_left; (focus (first | (simp; done) | (simp; omega) | omega))) | with_reducible refine Gw.alloc ?_ _ | with_reducible refine Gw.drew ?_ | with_reducible refine Gw.drewN ?_ _ | (refine Gw.trans ?_ (by with_reducible assumption))))⟩
open Classical in
noncomputable def shareF (l : List Sec) (i : Int) : Int × Int × Bool :=
  if HasP l i ∧ loudSum l ≠ 0 then ((low (loud ((l[i.toNat]?).getD default)) (loudSum l)).1, (low (loud ((l[i.toNat]?).getD default)) (loudSum l)).2, true) else (0, 0, false)
theorem shareF_bad {l : List Sec} {i : Int} (h : ¬(HasP l i ∧ loudSum l ≠ 0)) : shareF l i = (0, 0, false) := by unfold shareF; rw [if_neg h]
theorem shareF_good {l : List Sec} {i : Int} {x : Sec} (h : HasP l i) (h0 : loudSum l ≠ 0) (hx : l[i.toNat]? = some x) : shareF l i = ((low (x.2.1 * x.2.2) (loudSum l)).1, (low (x.2.1 * x.2.2) (loudSum l)).2, true) := by
  unfold shareF; rw [if_pos ⟨h, h0⟩, hx]; rfl
theorem ret_iib' {f : Int × Int × Bool} {a c : Int} {b : Bool} (h : f = (a, c, b)) : Ending.returned (.tuple #[.int .i64 a, .int .i64 c, .bool b]) = .returned (.tuple #[.int .i64 f.1, .int .i64 f.2.1, .bool f.2.2]) := by rw [h]

set_option maxHeartbeats 4000000 in
theorem s_LoudShare (A : Option Addr) (c : Nat) (l : List Sec) (i : Int) (w : World) (hl : l.length ≤ 1048576) (hz : ∀ x ∈ l, x.1.size ≤ 9223372036854775807) (hA : Rd w A l) (hlc : l.length ≤ c) :
    Calls Try.prog 21 #[.slice A l.length c, .int .i64 i] w fun e w' => e = .returned (.tuple #[.int .i64 (shareF l i).1, .int .i64 (shareF l i).2.1, .bool (shareF l i).2.2]) ∧ Gw w w' := by
  go_enter Try.func21, Try.ntmps21
  go_wp2_with fail
  refine (s_seHas _ _ _ _ _ hl hz hA hlc).mono ?_
  rintro _ w1 (⟨hp, rfl, hb1⟩ | ⟨hp, rfl, hb1⟩)
  case inr =>
    have hv : Hid (shareF l i = (0, 0, false)) := shareF_bad (fun h => hp h.1)
    clear hp
    go_wp2_with fail
    go_ret3
    exact ⟨ret_iib' hv.out, hb1⟩
  have HP := Lib.hid hp
  have HS : Hid (∀ x ∈ l, SecP x) := hp.1.1
  obtain ⟨_, hi0, hi1⟩ := hp
  obtain ⟨k, rfl⟩ : ∃ k : Nat, i = k := ⟨i.toNat, by omega⟩
  have hc1 := hb1.cells; have hz1 := hb1.size; (try simp at hz1)
  go_wp2_with fail
  refine (s_seLoud _ _ l _ hl (hA.gw hb1) HS.out).mono ?_
  rintro _ w2 ⟨rfl, hsum, hb2⟩
  have hG2 : Gw w w2 := Gw.trans hb1 hb2
  by_cases h0 : loudSum l = 0
  · have hv : Hid (shareF l k = (0, 0, false)) := shareF_bad (fun h => h.2 h0)
    have e1 : (loudSum l == 0) = true := by simp [h0]
    have h0 := Lib.hid h0
    go_wp2_with fail
    go_ret3
    exact ⟨ret_iib' hv.out, hG2⟩
  have e1 : (loudSum l == 0) = false := by simp [h0]
  obtain ⟨x, hx⟩ := get_of_lt (l := l) (k := k) (by omega)
  obtain ⟨x1, x2, x3⟩ := x
  have hm : 0 ≤ x2 * x3 ∧ x2 * x3 ≤ 6000 := loud_bd (HS.out _ (mem_of_get hx))
  have hv : Hid (shareF l k = ((low (x2 * x3) (loudSum l)).1, (low (x2 * x3) (loudSum l)).2, true)) := shareF_good (x := (x1, x2, x3)) HP.out h0 (by simpa using hx)
  obtain ⟨b, off, hae, hb, c0, c1, c2⟩ := (hA.gw hG2).getS hx
  subst hae
  dsimp only at c0 c1 c2
  clear hx
  have hk1 : k < l.length := by omega
  have hwm : IntKind.i64.wrap (x2 * x3) = x2 * x3 := IntWalk.i64_in _ (by omega)
  go_wp2_with ((with_reducible refine wp_region_gw (by kernel_rfl) (by kernel_rfl) ?_); have hcq := @GwOf.cell; (repeat (go_big_quiet_step (first | (go_at_call 53; exact GwOf.call ((s_seLoud _ _ l _ hl ((hA.gw hG2).gw (GwOf.gw _)) HS.out).mono (fun _ _ h => ⟨h.1, h.2.2⟩))) | (go_at_call 54; exact GwOf.call (s_mvPart _ _ _ (by omega) (by omega) (by omega) (by omega)))))); refine wpQuiet_nil ?_; clear hcq; rintro w' ⟨⟨w', hb⟩, rfl⟩; (try dsimp only); have hc := hb.cells; have hf := hb.frozens; have hz := hb.size; (try simp at hz); (try have hz0 : w.heap.size < w'.heap.size := (by omega)); (try have hz1 : w.heap.size + 1 < w'.heap.size := (by omega)); (try have hz2 : w.heap.size + 2 < w'.heap.size := (by omega)); (try have hz3 : w.heap.size + 3 < w'.heap.size := (by omega)); (try have hz4 : w.heap.size + 4 < w'.heap.size := (by omega)); (try have hz5 : w.heap.size + 5 < w'.heap.size := (by omega)))
  go_ret3
  exact ⟨ret_iib' hv.out, by (repeat (first | with_reducible exact Gw.refl _ | with_reducible assumption | ((with_reducible refine Gw.set ?_ ?_ _); rotate_left; (focus (first | (simp; done) | (simp; omega) | omega))) | with_reducible refine Gw.alloc ?_ _ | with_reducible refine Gw.drew ?_ | with_reducible refine Gw.drewN ?_ _ | (refine Gw.trans ?_ (by with_reducible assumption))))⟩

set_option maxHeartbeats 4000000 in
theorem i_LoudShare (A : Option Addr) (c : Nat) (l : List Sec) (i : Int) (w : World) (hl : l.length ≤ 1048576) (hz : ∀ x ∈ l, x.1.size ≤ 9223372036854775807) (hA : Rd w A l) (hlc : l.length ≤ c) :
    Calls Try.prog 20 #[.slice A l.length c, .int .i64 i] w fun e w' => e = .returned (.tuple #[.int .i64 (shareF l i).1, .int .i64 (shareF l i).2.1, .bool (shareF l i).2.2]) ∧ Gw w w' := by
  go_enter Try.func20, Try.ntmps20
  go_wp2_with fail
  refine (i_isSection _ _ _ _ _ hl hz hA hlc).mono ?_
  rintro _ w1 (⟨hp, rfl, hb1⟩ | ⟨hp, rfl, hb1⟩)
  case inr =>
    have hv : Hid (shareF l i = (0, 0, false)) := shareF_bad (fun h => hp h.1)
    clear hp
    go_wp2_with fail
    go_ret3
    exact ⟨ret_iib' hv.out, hb1⟩
  have HP := Lib.hid hp
  have HS : Hid (∀ x ∈ l, SecP x) := hp.1.1
  obtain ⟨_, hi0, hi1⟩ := hp
  obtain ⟨kk, rfl⟩ : ∃ k : Nat, i = k := ⟨i.toNat, by omega⟩
  go_wp2_with fail
  go_loopw [7, 18] (fun q i wr => ∃ (k : Nat) (v : Int), i = .int .i64 k ∧ q = .int .i64 v ∧ k ≤ l.length ∧ 0 ≤ v ∧ v ≤ 6000 * k ∧ Hid (v = loudSum (l.take k)) ∧ Gw w wr) (fun _ i _ => l.length - (intOf i).toNat)
  case atStart => exact ⟨0, 0, by go_num, by go_num, Nat.zero_le _, by omega, by omega, by simp [Hid, loudSum], by (repeat (first | with_reducible exact Gw.refl _ | with_reducible assumption | ((with_reducible refine Gw.set ?_ ?_ _); rotate_left; (focus (first | (simp; done) | (simp; omega) | omega))) | with_reducible refine Gw.alloc ?_ _ | with_reducible refine Gw.drew ?_ | with_reducible refine Gw.drewN ?_ _ | (refine Gw.trans ?_ (by with_reducible assumption))))⟩
  case round =>
    obtain ⟨k, v, rfl, rfl, hk, hv0, hv1, hv, hgw⟩ := hrel
    by_cases hlt : k < l.length
    · obtain ⟨x, hx⟩ := get_of_lt hlt
      obtain ⟨x1, x2, x3⟩ := x
      have hxp := HS.out _ (mem_of_get hx)
      have hm : 0 ≤ x2 * x3 ∧ x2 * x3 ≤ 6000 := loud_bd hxp
      obtain ⟨b, off, rfl, hb, c0, c1, c2⟩ := (hA.gw hgw).getS hx
      dsimp only at c0 c1 c2
      have hvn : Hid (v + x2 * x3 = loudSum (l.take (k + 1))) := by unfold Hid; rw [take_succ_of hx, loudSum_snoc, hv.out]; rfl
      clear hx hxp
      go_wp2_with fail
      go_roundw
      case rel => exact ⟨k + 1, v + x2 * x3, by go_num, by go_num, by omega, by omega, by omega, hvn, by (repeat (first | with_reducible exact Gw.refl _ | with_reducible assumption | ((with_reducible refine Gw.set ?_ ?_ _); rotate_left; (focus (first | (simp; done) | (simp; omega) | omega))) | with_reducible refine Gw.alloc ?_ _ | with_reducible refine Gw.drew ?_ | with_reducible refine Gw.drewN ?_ _ | (refine Gw.trans ?_ (by with_reducible assumption))))⟩
      case measure => simp [intOf]; omega
    · have hfin : Hid (v = loudSum l) := by unfold Hid; rw [hv.out, List.take_of_length_le (by omega)]
      by_cases h0 : v = 0
      · have hv : Hid (shareF l kk = (0, 0, false)) := shareF_bad (fun h => h.2 (by rw [← hfin.out]; exact h0))
        have e1 : (v == 0) = true := by simp [h0]
        have h0 := Lib.hid h0
        go_wp2_with fail
        go_ret3
        exact ⟨ret_iib' hv.out, by (repeat (first | with_reducible exact Gw.refl _ | with_reducible assumption | ((with_reducible refine Gw.set ?_ ?_ _); rotate_left; (focus (first | (simp; done) | (simp; omega) | omega))) | with_reducible refine Gw.alloc ?_ _ | with_reducible refine Gw.drew ?_ | with_reducible refine Gw.drewN ?_ _ | (refine Gw.trans ?_ (by with_reducible assumption))))⟩
      have e1 : (v == 0) = false := by simp [h0]
      obtain ⟨x, hx⟩ := get_of_lt (l := l) (k := kk) (by omega)
      obtain ⟨x1, x2, x3⟩ := x
      have hm : 0 ≤ x2 * x3 ∧ x2 * x3 ≤ 6000 := loud_bd (HS.out _ (mem_of_get hx))
      have hv : Hid (shareF l kk = ((low (x2 * x3) v).1, (low (x2 * x3) v).2, true)) := by have := shareF_good (x := (x1, x2, x3)) HP.out (by rw [← hfin.out]; exact h0) (by simpa using hx); unfold Hid; rw [this, hfin.out]
      obtain ⟨b, off, hae, hb, c0, c1, c2⟩ := (hA.gw hgw).getS hx
      subst hae
      dsimp only at c0 c1 c2
      clear hx
      have hk1 : kk < l.length := by omega
      have hwm : IntKind.i64.wrap (x2 * x3) = x2 * x3 := IntWalk.i64_in _ (by omega)
      go_wp2_with ((with_reducible refine wp_region_gw (by kernel_rfl) (by kernel_rfl) ?_); have hcq := @GwOf.cell; (repeat (go_big_quiet_step (first | (go_at_call 52; exact GwOf.call (i_lowestTerms _ _ _ (by omega) (by omega) (by omega) (by omega)))))); refine wpQuiet_nil ?_; clear hcq; rintro w' ⟨⟨w', hb⟩, rfl⟩; (try dsimp only); have hc := hb.cells; have hf := hb.frozens; have hz := hb.size; (try simp at hz); (try have hz0 : w.heap.size < w'.heap.size := (by omega)); (try have hz1 : w.heap.size + 1 < w'.heap.size := (by omega)); (try have hz2 : w.heap.size + 2 < w'.heap.size := (by omega)); (try have hz3 : w.heap.size + 3 < w'.heap.size := (by omega)); (try have hz4 : w.heap.size + 4 < w'.heap.size := (by omega)); (try have hz5 : w.heap.size + 5 < w'.heap.size := (by omega)))
      go_ret3
      exact ⟨ret_iib' hv.out, by (repeat (first | with_reducible exact Gw.refl _ | with_reducible assumption | ((with_reducible refine Gw.set ?_ ?_ _); rotate_left; (focus (first | (simp; done) | (simp; omega) | omega))) | with_reducible refine Gw.alloc ?_ _ | with_reducible refine Gw.drew ?_ | with_reducible refine Gw.drewN ?_ _ | (refine Gw.trans ?_ (by with_reducible assumption))))⟩

end Go.Proofs.Ytopaekijhkfhpaa
