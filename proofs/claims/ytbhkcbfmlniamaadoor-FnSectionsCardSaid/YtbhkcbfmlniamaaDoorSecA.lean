/-
  Sections: whose is a player, which is the loudest, what share has one.
-/
import Derived.Test.YtbhkcbfmlniamaaDoorSec
import Derived.Test.YtbhkcbfmlniamaaDoorNum
namespace Go.Proofs.YtbhkcbfmlniamaaDoor
open Go.RowKit

abbrev HasP (l : List Sec) (i : Int) : Prop := SecsP l ∧ 0 ≤ i ∧ i ≤ (l.length : Int) - 1

theorem s_seHas (A : Option Addr) (c : Nat) (l : List Sec) (i : Int) (w : World) (hl : l.length ≤ 1048576) (hz : ∀ x ∈ l, x.1.size ≤ 9223372036854775807) (hA : Rd w A l) (_hlc : l.length ≤ c) :
    Calls Tryd.prog 35 #[.slice A l.length c, .int .i64 i] w (Tells (HasP l i) w) := by
  go_enter Tryd.func35, Tryd.ntmps35
  go_wp2_with fail
  refine (s_seGood _ _ _ _ hl hz hA).mono ?_
  rintro _ w1 (⟨hp, rfl, hb1⟩ | ⟨hp, rfl, hb1⟩)
  case inr =>
    have HP := Lib.hid hp
    clear hp
    go_wp2_with fail
    go_ret
    exact .inr ⟨fun h => HP.out h.1, rfl, hb1⟩
  have HP := Lib.hid hp
  clear hp
  go_wp2_with (first | (go_at_call 40; refine (s_l1In _ _ _ _).mono ?_; rintro e w' (⟨hp, rfl, rfl⟩ | ⟨hp, rfl, rfl⟩)))
  all_goals first
    | (go_ret
       exact .inl ⟨⟨HP.out, by omega⟩, rfl, hb1⟩)
    | (go_ret
       exact .inr ⟨fun h => by have := h.2; omega, rfl, hb1⟩)
theorem i_isSection (A : Option Addr) (c : Nat) (l : List Sec) (i : Int) (w : World) (hl : l.length ≤ 1048576) (hz : ∀ x ∈ l, x.1.size ≤ 9223372036854775807) (hA : Rd w A l) (hlc : l.length ≤ c) :
    Calls Tryd.prog 33 #[.slice A l.length c, .int .i64 i] w (Tells (HasP l i) w) := by
  go_enter Tryd.func33, Tryd.ntmps33
  go_wp2_with fail
  refine (i_AreSections _ _ _ _ hl hz hA hlc).mono ?_
  rintro _ w1 (⟨hp, rfl, hb1⟩ | ⟨hp, rfl, hb1⟩)
  case inr =>
    have HP := Lib.hid hp
    clear hp
    go_wp2_with fail
    go_ret
    exact .inr ⟨fun h => HP.out h.1, rfl, hb1⟩
  have HP := Lib.hid hp
  clear hp
  go_wp2_with (first | (go_at_call 38; refine (i_within _ _ _ _).mono ?_; rintro e w' (⟨hp, rfl, rfl⟩ | ⟨hp, rfl, rfl⟩)))
  all_goals first
    | (go_ret
       exact .inl ⟨⟨HP.out, by omega⟩, rfl, hb1⟩)
    | (go_ret
       exact .inr ⟨fun h => by have := h.2; omega, rfl, hb1⟩)

/-! ### Whose is a player -/
def secGo : List Sec → Int → Int → Int × Bool
  | [], _, _ => (0, false)
  | x :: l, p, i => if p < x.2.1 then (i, true) else secGo l (p - x.2.1) (i + 1)
theorem secGo_at {l : List Sec} {k : Nat} {x : Sec} {p : Int} (hx : l[k]? = some x) (h : p < x.2.1) : secGo (l.drop k) p k = ((k : Int), true) := by
  rw [drop_of' hx, secGo, if_pos h]
theorem secGo_next {l : List Sec} {k : Nat} {x : Sec} {p : Int} (hx : l[k]? = some x) (h : ¬p < x.2.1) : secGo (l.drop k) p k = secGo (l.drop (k + 1)) (p - x.2.1) ((k + 1 : Nat) : Int) := by
  rw [drop_of' hx, secGo, if_neg h]
  simp
theorem secGo_out {l : List Sec} : ∀ {p i : Int}, (∀ x ∈ l, 1 ≤ x.2.1 ∧ x.2.1 ≤ 60) → ssum l ≤ p → secGo l p i = (0, false) := by
  induction l with
  | nil => intro p i _ _; rfl
  | cons x l ih =>
    intro p i h hp
    have h1 := ssum_bd (fun y hy => h y (List.mem_cons_of_mem _ hy))
    rw [ssum_cons] at hp
    rw [secGo, if_neg (by omega)]
    exact ih (fun y hy => h y (List.mem_cons_of_mem _ hy)) (by omega)
open Classical in
noncomputable def sectF (l : List Sec) (p : Int) : Int × Bool := if SecsP l ∧ 0 ≤ p then secGo l p 0 else (0, false)
theorem sectF_bad {l : List Sec} {p : Int} (h : ¬(SecsP l ∧ 0 ≤ p)) : sectF l p = (0, false) := by unfold sectF; rw [if_neg h]
theorem sectF_good {l : List Sec} {p : Int} (h : SecsP l) (h0 : 0 ≤ p) : sectF l p = secGo l p 0 := by unfold sectF; rw [if_pos ⟨h, h0⟩]
theorem sectF_out {l : List Sec} {p : Int} (h : SecsP l) (h0 : ssum l ≤ p) : sectF l p = (0, false) := by
  unfold sectF; split
  · exact secGo_out h.size h0
  · rfl

set_option maxHeartbeats 4000000 in
theorem s_SectionOf (A : Option Addr) (c : Nat) (l : List Sec) (p0 : Int) (w : World) (hl : l.length ≤ 1048576) (hz : ∀ x ∈ l, x.1.size ≤ 9223372036854775807) (hA : Rd w A l) (_hlc : l.length ≤ c) (_hp0 : -9223372036854775808 ≤ p0 ∧ p0 ≤ 9223372036854775807) :
    Calls Tryd.prog 25 #[.slice A l.length c, .int .i64 p0] w fun e w' => e = .returned (.tuple #[.int .i64 (sectF l p0).1, .bool (sectF l p0).2]) ∧ Gw w w' := by
  go_enter Tryd.func25, Tryd.ntmps25
  go_wp2_with fail
  refine (s_seGood _ _ _ _ hl hz hA).mono ?_
  rintro _ w1 (⟨hp, rfl, hb1⟩ | ⟨hp, rfl, hb1⟩)
  case inr =>
    have hv : Hid (sectF l p0 = (0, false)) := sectF_bad (fun h => hp h.1)
    clear hp
    go_wp2_with fail
    go_ret2
    exact ⟨ret_ib hv.out, hb1⟩
  have HP := Lib.hid hp
  have HS := Lib.hid hp.size
  have hbd := ssum_bd hp.size
  have h60 := hp.2.2.2
  have h10 := hp.2.2.1.2
  clear hp
  go_wp2_with fail
  refine (s_seSum _ _ _ l _ rfl hl (hA.gw hb1) HS.out).mono ?_
  rintro _ w2 ⟨rfl, hb2⟩
  have hG2 : Gw w w2 := Gw.trans hb1 hb2
  go_wp2_with fail
  refine (s_l1In _ _ _ _).mono ?_
  rintro _ w3 (⟨hp, rfl, rfl⟩ | ⟨hp, rfl, rfl⟩)
  case inr =>
    have hv : Hid (sectF l p0 = (0, false)) := by
      unfold Hid
      by_cases h0 : 0 ≤ p0
      · exact sectF_out HP.out (by omega)
      · exact sectF_bad (fun h => h0 h.2)
    clear hp
    go_wp2_with fail
    go_ret2
    exact ⟨ret_ib hv.out, hG2⟩
  have hv : Hid (sectF l p0 = secGo l p0 0) := sectF_good HP.out (by omega)
  go_wp2_with fail
  go_loopw [1, 6] (fun q i wr => ∃ (k : Nat) (p : Int), i = .int .i64 k ∧ q = .int .i64 p ∧ k ≤ l.length ∧ 0 ≤ p ∧ p ≤ 60 ∧ Hid (p < ssum (l.drop k)) ∧ Hid (secGo (l.drop k) p k = secGo l p0 0) ∧ Gw w wr) (fun q i _ => l.length - (intOf i).toNat)
  case atStart => exact ⟨0, p0, by go_num, rfl, Nat.zero_le _, by omega, by omega, by unfold Hid; simp; omega, by simp [Hid], hG2⟩
  case round =>
    obtain ⟨k, p, rfl, rfl, hk, hq0, hq1, hps, hgo, hgw⟩ := hrel
    have hlt : k < l.length := by
      rcases Nat.lt_or_ge k l.length with g | g
      · exact g
      · have := hps.out
        rw [List.drop_of_length_le g, ssum_nil] at this
        omega
    obtain ⟨x, hx⟩ := get_of_lt hlt
    have hxs := HS.out x (mem_of_get hx)
    have hps2 : Hid (p - x.2.1 < ssum (l.drop (k + 1))) := by have := hps.out; rw [drop_of' hx, ssum_cons] at this; unfold Hid; omega
    obtain ⟨b, off, rfl, hb, c0, c1, c2⟩ := (hA.gw hgw).getS hx
    have Hx := Lib.hid hx
    clear hx
    by_cases hlt2 : p < x.2.1
    · have hfin : Hid (sectF l p0 = ((k : Int), true)) := by unfold Hid; rw [hv.out, ← hgo.out, secGo_at Hx.out hlt2]
      go_wp2_with fail
      go_ret2
      exact ⟨ret_ib hfin.out, by (repeat (first | with_reducible exact Gw.refl _ | with_reducible assumption | ((with_reducible refine Gw.set ?_ ?_ _); rotate_left; (focus (first | (simp; done) | (simp; omega) | omega))) | with_reducible refine Gw.alloc ?_ _ | with_reducible refine Gw.drew ?_ | with_reducible refine Gw.drewN ?_ _ | (refine Gw.trans ?_ (by with_reducible assumption))))⟩
    · have hn : Hid (secGo (l.drop (k + 1)) (p - x.2.1) ((k + 1 : Nat) : Int) = secGo l p0 0) := by unfold Hid; rw [← hgo.out, secGo_next Hx.out hlt2]
      go_wp2_with fail
      go_roundw
      case rel => exact ⟨k + 1, p - x.2.1, by go_num, by go_num, by omega, by omega, by omega, hps2, hn, by (repeat (first | with_reducible exact Gw.refl _ | with_reducible assumption | ((with_reducible refine Gw.set ?_ ?_ _); rotate_left; (focus (first | (simp; done) | (simp; omega) | omega))) | with_reducible refine Gw.alloc ?_ _ | with_reducible refine Gw.drew ?_ | with_reducible refine Gw.drewN ?_ _ | (refine Gw.trans ?_ (by with_reducible assumption))))⟩
      case measure => simp [intOf]; omega

set_option maxHeartbeats 4000000 in
theorem i_SectionOf (A : Option Addr) (c : Nat) (l : List Sec) (p0 : Int) (w : World) (hl : l.length ≤ 1048576) (hz : ∀ x ∈ l, x.1.size ≤ 9223372036854775807) (hA : Rd w A l) (hlc : l.length ≤ c) (hp0 : -9223372036854775808 ≤ p0 ∧ p0 ≤ 9223372036854775807) :
    Calls Tryd.prog 11 #[.slice A l.length c, .int .i64 p0] w fun e w' => e = .returned (.tuple #[.int .i64 (sectF l p0).1, .bool (sectF l p0).2]) ∧ Gw w w' := by
  go_enter Tryd.func11, Tryd.ntmps11
  go_wp2_with fail
  refine (i_AreSections _ _ _ _ hl hz hA hlc).mono ?_
  rintro _ w1 (⟨hp, rfl, hb1⟩ | ⟨hp, rfl, hb1⟩)
  case inr =>
    have hv : Hid (sectF l p0 = (0, false)) := sectF_bad (fun h => hp h.1)
    clear hp
    go_wp2_with fail
    go_ret2
    exact ⟨ret_ib hv.out, hb1⟩
  have HP := Lib.hid hp
  have HS := Lib.hid hp.size
  clear hp
  by_cases h0 : 0 ≤ p0
  case neg =>
    have hv : Hid (sectF l p0 = (0, false)) := sectF_bad (fun h => h0 h.2)
    go_wp2_with fail
    go_ret2
    exact ⟨ret_ib hv.out, hb1⟩
  have hv : Hid (sectF l p0 = secGo l p0 0) := sectF_good HP.out h0
  go_wp2_with fail
  go_loopw [1, 17] (fun q i wr => ∃ (k : Nat) (p : Int), i = .int .i64 k ∧ q = .int .i64 p ∧ k ≤ l.length ∧ 0 ≤ p ∧ p ≤ p0 ∧ Hid (secGo (l.drop k) p k = secGo l p0 0) ∧ Gw w wr) (fun q i _ => l.length - (intOf i).toNat)
  case atStart => exact ⟨0, p0, by go_num, rfl, Nat.zero_le _, h0, by omega, by simp [Hid], hb1⟩
  case round =>
    obtain ⟨k, p, rfl, rfl, hk, hq0, hq1, hgo, hgw⟩ := hrel
    by_cases hlt : k < l.length
    · obtain ⟨x, hx⟩ := get_of_lt hlt
      have hxs := HS.out x (mem_of_get hx)
      obtain ⟨b, off, rfl, hb, c0, c1, c2⟩ := (hA.gw hgw).getS hx
      have Hx := Lib.hid hx
      clear hx
      by_cases hlt2 : p < x.2.1
      · have hfin : Hid (sectF l p0 = ((k : Int), true)) := by unfold Hid; rw [hv.out, ← hgo.out, secGo_at Hx.out hlt2]
        go_wp2_with fail
        go_ret2
        exact ⟨ret_ib hfin.out, by (repeat (first | with_reducible exact Gw.refl _ | with_reducible assumption | ((with_reducible refine Gw.set ?_ ?_ _); rotate_left; (focus (first | (simp; done) | (simp; omega) | omega))) | with_reducible refine Gw.alloc ?_ _ | with_reducible refine Gw.drew ?_ | with_reducible refine Gw.drewN ?_ _ | (refine Gw.trans ?_ (by with_reducible assumption))))⟩
      · have hn : Hid (secGo (l.drop (k + 1)) (p - x.2.1) ((k + 1 : Nat) : Int) = secGo l p0 0) := by unfold Hid; rw [← hgo.out, secGo_next Hx.out hlt2]
        go_wp2_with fail
        go_roundw
        case rel => exact ⟨k + 1, p - x.2.1, by go_num, by go_num, by omega, by omega, by omega, hn, by (repeat (first | with_reducible exact Gw.refl _ | with_reducible assumption | ((with_reducible refine Gw.set ?_ ?_ _); rotate_left; (focus (first | (simp; done) | (simp; omega) | omega))) | with_reducible refine Gw.alloc ?_ _ | with_reducible refine Gw.drew ?_ | with_reducible refine Gw.drewN ?_ _ | (refine Gw.trans ?_ (by with_reducible assumption))))⟩
        case measure => simp [intOf]; omega
    · have hfin : Hid (sectF l p0 = (0, false)) := by unfold Hid; rw [hv.out, ← hgo.out, List.drop_of_length_le (by omega)]; rfl
      go_wp2_with fail
      go_ret2
      exact ⟨ret_ib hfin.out, by (repeat (first | with_reducible exact Gw.refl _ | with_reducible assumption | ((with_reducible refine Gw.set ?_ ?_ _); rotate_left; (focus (first | (simp; done) | (simp; omega) | omega))) | with_reducible refine Gw.alloc ?_ _ | with_reducible refine Gw.drew ?_ | with_reducible refine Gw.drewN ?_ _ | (refine Gw.trans ?_ (by with_reducible assumption))))⟩

/-! ### The loudest one -/
def loud (x : Sec) : Int := x.2.1 * x.2.2
theorem loud_bd {x : Sec} (h : SecP x) : 0 ≤ loud x ∧ loud x ≤ 6000 := by
  obtain ⟨_, ⟨h1, h2⟩, h3, h4⟩ := h
  refine ⟨Int.mul_nonneg (by omega) h3, ?_⟩
  have := Int.mul_le_mul h2 h4 h3 (by omega)
  simpa [loud] using this
def louder (l : List Sec) (i j : Nat) : Prop := ∀ x y, l[i]? = some x → l[j]? = some y → loud y < loud x
open Classical in
noncomputable def bst (l : List Sec) : Nat → Nat
  | 0 => 0
  | k + 1 => if louder l k (bst l k) then k else bst l k
open Classical in
noncomputable def loudestF (l : List Sec) : Int × Bool := if SecsP l then ((bst l l.length : Int), true) else (0, false)
theorem loudestF_bad {l : List Sec} (h : ¬SecsP l) : loudestF l = (0, false) := by unfold loudestF; rw [if_neg h]
theorem loudestF_good {l : List Sec} (h : SecsP l) : loudestF l = ((bst l l.length : Int), true) := by unfold loudestF; rw [if_pos h]

/-! ### Shares -/
def loudSum (l : List Sec) : Int := (l.map loud).sum
theorem loudSum_snoc (l : List Sec) (x : Sec) : loudSum (l ++ [x]) = loudSum l + loud x := by simp [loudSum]
open Classical in
noncomputable def shareF (l : List Sec) (i : Int) : Int × Int × Bool :=
  if HasP l i ∧ loudSum l ≠ 0 then ((low (loud ((l[i.toNat]?).getD default)) (loudSum l)).1, (low (loud ((l[i.toNat]?).getD default)) (loudSum l)).2, true) else (0, 0, false)
theorem shareF_bad {l : List Sec} {i : Int} (h : ¬(HasP l i ∧ loudSum l ≠ 0)) : shareF l i = (0, 0, false) := by unfold shareF; rw [if_neg h]
theorem shareF_good {l : List Sec} {i : Int} {x : Sec} (h : HasP l i) (h0 : loudSum l ≠ 0) (hx : l[i.toNat]? = some x) : shareF l i = ((low (x.2.1 * x.2.2) (loudSum l)).1, (low (x.2.1 * x.2.2) (loudSum l)).2, true) := by
  unfold shareF; rw [if_pos ⟨h, h0⟩, hx]; rfl
theorem ret_iib' {f : Int × Int × Bool} {a c : Int} {b : Bool} (h : f = (a, c, b)) : Ending.returned (.tuple #[.int .i64 a, .int .i64 c, .bool b]) = .returned (.tuple #[.int .i64 f.1, .int .i64 f.2.1, .bool f.2.2]) := by rw [h]

end Go.Proofs.YtbhkcbfmlniamaaDoor
