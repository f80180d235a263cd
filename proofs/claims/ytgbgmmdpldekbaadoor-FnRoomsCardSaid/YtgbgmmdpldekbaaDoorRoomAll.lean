/-
  The first room, the longest window, common windows: plain.
  FirstRoom and LongestWindow: what the program and the reference tell.
-/
import Derived.Test.YtgbgmmdpldekbaaDoorWinF
import Derived.Test.YtgbgmmdpldekbaaDoorHourYZ
import Derived.BigRegion
namespace Go.Proofs.YtgbgmmdpldekbaaDoor
open Go.RowKit

def betR : Option (Int × Int) → Int → Bool
  | none, _ => true
  | some p, v => decide (v < p.1)
def roomStep (h f : Int) (st : Option (Int × Int)) (x : W3) : Option (Int × Int) := if max x.2.1 f + h ≤ x.2.2 ∧ betR st (max x.2.1 f) = true then some (max x.2.1 f, x.1) else st
def roomGo (h f : Int) (l : List W3) : Option (Int × Int) := l.foldl (roomStep h f) none
theorem roomGo_take {h f : Int} {l : List W3} {k : Nat} {x : W3} (hx : l[k]? = some x) : roomGo h f (l.take (k + 1)) = roomStep h f (roomGo h f (l.take k)) x := by
  unfold roomGo
  rw [take_succ_of hx, List.foldl_append]
  rfl
def RoomI (h f : Int) (l : List W3) : Option (Int × Int) → Prop
  | none => ∀ x ∈ l, ¬max x.2.1 f + h ≤ x.2.2
  | some p => ∃ x ∈ l, x.1 = p.2 ∧ max x.2.1 f = p.1 ∧ p.1 + h ≤ x.2.2
theorem roomGo_inv (h f : Int) (l : List W3) : RoomI h f l (roomGo h f l) := by
  have key : ∀ (l m : List W3) (st : Option (Int × Int)), RoomI h f m st → RoomI h f (m ++ l) (l.foldl (roomStep h f) st) := by
    intro l
    induction l with
    | nil => intro m st hm; simpa using hm
    | cons x l ih =>
      intro m st hm
      rw [List.foldl_cons, show m ++ x :: l = (m ++ [x]) ++ l by simp]
      refine ih _ _ ?_
      unfold roomStep
      by_cases hc : max x.2.1 f + h ≤ x.2.2 ∧ betR st (max x.2.1 f) = true
      · rw [if_pos hc]
        exact ⟨x, by simp, rfl, rfl, hc.1⟩
      · rw [if_neg hc]
        cases st with
        | some p =>
          obtain ⟨y, hy, e⟩ := hm
          exact ⟨y, by simp [hy], e⟩
        | none =>
          intro y hy
          rcases List.mem_append.1 hy with hy | hy
          · exact hm y hy
          · simp only [List.mem_singleton] at hy
            subst hy
            exact fun h1 => hc ⟨h1, rfl⟩
  have := key l [] none (fun x hx => by simp at hx)
  rw [List.nil_append] at this
  exact this
open Classical in
noncomputable def roomF (l : List W3) (h f : Int) : Int × Int × Bool :=
  if WinsP l ∧ InR h 1 168 ∧ InR f 0 167 then (match roomGo h f l with | some p => (p.1, p.2, true) | none => (0, 0, false)) else (0, 0, false)
theorem roomF_bad {l : List W3} {h f : Int} (hn : ¬(WinsP l ∧ InR h 1 168 ∧ InR f 0 167)) : roomF l h f = (0, 0, false) := by unfold roomF; rw [if_neg hn]
theorem roomF_some {l : List W3} {h f : Int} {p : Int × Int} (hp : WinsP l ∧ InR h 1 168 ∧ InR f 0 167) (hg : roomGo h f l = some p) : roomF l h f = (p.1, p.2, true) := by unfold roomF; rw [if_pos hp, hg]
theorem roomF_none {l : List W3} {h f : Int} (hg : roomGo h f l = none) : roomF l h f = (0, 0, false) := by
  unfold roomF
  split
  · rw [hg]
  · rfl
/-- What a first room is. -/
theorem room_facts {l : List W3} {h f a p : Int} (he : roomF l h f = (a, p, true)) : WinsP l ∧ InR h 1 168 ∧ InR f 0 167 ∧ f ≤ a ∧ 0 ≤ a ∧ a + h ≤ 168 ∧ (∀ k, a ≤ k → k < a + h → openP l p k) ∧ (f < a → (roomF l h (a - 1)).2.2 = true ∧ ¬openP l p (a - 1)) := by
  by_cases hP : WinsP l ∧ InR h 1 168 ∧ InR f 0 167
  · cases hg : roomGo h f l with
    | none => rw [roomF_none hg] at he; cases he
    | some q =>
      rw [roomF_some hP hg] at he
      obtain ⟨hW, hh, hf⟩ := hP
      obtain ⟨rfl, he2⟩ := Prod.mk.inj he
      obtain ⟨rfl, -⟩ := Prod.mk.inj he2
      have hi := roomGo_inv h f l
      rw [hg] at hi
      obtain ⟨x, hx, e1, e2, e3⟩ := hi
      have hwp : (1 ≤ x.1 ∧ x.1 ≤ 9) ∧ 0 ≤ x.2.1 ∧ x.2.1 < x.2.2 ∧ x.2.2 ≤ 168 := by
        have := hW.1 x hx
        omega
      refine ⟨hW, hh, hf, by omega, by omega, by omega, fun k h1 h2 => ⟨x, hx, e1, by omega, by omega⟩, fun hlt => ⟨?_, ?_⟩⟩
      · have hi2 := roomGo_inv h (q.1 - 1) l
        cases hg2 : roomGo h (q.1 - 1) l with
        | none =>
          rw [hg2] at hi2
          exact absurd (show max x.2.1 (q.1 - 1) + h ≤ x.2.2 by omega) (hi2 x hx)
        | some r => rw [roomF_some ⟨hW, hh, by omega, by omega⟩ hg2]
      · rintro ⟨y, hy, d1, d2, d3⟩
        have hwy : 0 ≤ y.2.1 ∧ y.2.1 < y.2.2 := by
          have := hW.1 y hy
          omega
        have hpw := winsP_pair hW
        obtain ⟨i, hi⟩ := List.getElem?_of_mem hx
        obtain ⟨j, hj⟩ := List.getElem?_of_mem hy
        obtain ⟨hil, hie⟩ := List.getElem?_eq_some_iff.1 hi
        obtain ⟨hjl, hje⟩ := List.getElem?_eq_some_iff.1 hj
        rcases Nat.lt_trichotomy i j with hij | hij | hij
        · have := List.pairwise_iff_getElem.1 hpw i j hil hjl hij
          rw [hie, hje] at this
          omega
        · subst hij
          rw [hi] at hj
          cases hj
          omega
        · have := List.pairwise_iff_getElem.1 hpw j i hjl hil hij
          rw [hie, hje] at this
          omega
  · rw [roomF_bad hP] at he
    cases he
/-! ### The longest -/
def span (x : W3) : Int := x.2.2 - x.2.1
def wider (l : List W3) (i j : Nat) : Prop := ∀ x y, l[i]? = some x → l[j]? = some y → span y < span x
open Classical in
noncomputable def bstW (l : List W3) : Nat → Nat
  | 0 => 0
  | k + 1 => if wider l k (bstW l k) then k else bstW l k
open Classical in
theorem bstW_best {l : List W3} : ∀ {k : Nat}, k ≤ l.length → 1 ≤ k → bstW l k < k ∧ ∀ i x y, i < k → l[i]? = some x → l[bstW l k]? = some y → span x ≤ span y
  | 0, _, h => by omega
  | k + 1, hk, _ => by
    obtain ⟨z, hz⟩ := get_of_lt (show k < l.length by omega)
    rw [bstW]
    by_cases h0 : k = 0
    · subst h0
      have hb : (if wider l 0 (bstW l 0) then 0 else bstW l 0) = 0 := by split <;> rfl
      rw [hb]
      refine ⟨by omega, fun i x y hi hx hy => ?_⟩
      obtain rfl : i = 0 := by omega
      rw [hx] at hy
      cases hy
      exact Int.le_refl _
    · obtain ⟨h1, h2⟩ := bstW_best (l := l) (k := k) (by omega) (by omega)
      obtain ⟨v, hv⟩ := get_of_lt (show bstW l k < l.length by omega)
      by_cases hw : wider l k (bstW l k)
      · rw [if_pos hw]
        refine ⟨by omega, fun i x y hi hx hy => ?_⟩
        rw [hz] at hy
        cases hy
        by_cases hik : i = k
        · subst hik
          rw [hz] at hx
          cases hx
          exact Int.le_refl _
        · have := h2 i x v (by omega) hx hv
          have := hw z v hz hv
          omega
      · rw [if_neg hw]
        refine ⟨by omega, fun i x y hi hx hy => ?_⟩
        rw [hv] at hy
        cases hy
        by_cases hik : i = k
        · subst hik
          rw [hz] at hx
          cases hx
          by_cases hlt : span v < span z
          · exact absurd (fun x y hx hy => by rw [hz] at hx; rw [hv] at hy; cases hx; cases hy; exact hlt) hw
          · omega
        · exact h2 i x v (by omega) hx hv
open Classical in
noncomputable def longF (l : List W3) : Int × Bool := if WinsP l ∧ 0 < l.length then ((bstW l l.length : Int), true) else (0, false)
theorem longF_bad {l : List W3} (h : ¬(WinsP l ∧ 0 < l.length)) : longF l = (0, false) := by unfold longF; rw [if_neg h]
theorem longF_good {l : List W3} (h : WinsP l ∧ 0 < l.length) : longF l = ((bstW l l.length : Int), true) := by unfold longF; rw [if_pos h]
/-- The longest window, and whether there is one. -/
theorem long_facts (l : List W3) : ∃ (n : Int) (o : Bool), longF l = (n, o) ∧ (o = true ↔ WinsP l ∧ 0 < l.length) ∧ (o = true → ∃ (b : Nat) (y : W3), n = b ∧ l[b]? = some y ∧ ∀ x ∈ l, x.2.2 - x.2.1 ≤ y.2.2 - y.2.1) := by
  by_cases h : WinsP l ∧ 0 < l.length
  · refine ⟨_, true, longF_good h, by simp [h], fun _ => ?_⟩
    obtain ⟨h1, h2⟩ := bstW_best (l := l) (k := l.length) (Nat.le_refl _) (by omega)
    obtain ⟨y, hy⟩ := get_of_lt h1
    refine ⟨_, y, rfl, hy, fun x hx => ?_⟩
    obtain ⟨j, hj⟩ := List.getElem?_of_mem hx
    exact h2 j x y (List.getElem?_eq_some_iff.1 hj).1 hj hy
  · exact ⟨_, false, longF_bad h, by simp [h], fun h => by cases h⟩
/-! ### What is common -/
theorem com_facts {a b c : List W3} (h : commonF a b = (c, true)) : commonF b a = (c, true) ∧ WinsP a ∧ WinsP b ∧ WinsP c ∧ ∀ P : Nat, 1 ≤ P → P ≤ 9 → hoursS (P : Int) c ≤ hoursS (P : Int) a ∧ hoursS (P : Int) c ≤ hoursS (P : Int) b := by
  by_cases hP : WinsP a ∧ WinsP b
  · have hsym : comT (tabOf b) (tabOf a) = comT (tabOf a) (tabOf b) := by
      funext p h
      exact Bool.and_comm _ _
    have hb : commonF b a = (c, true) := by
      rw [commonF_ok ⟨hP.2, hP.1⟩, hsym, ← commonF_ok hP, h]
    rw [commonF_ok hP] at h
    obtain ⟨h1, rfl⟩ := winF_yes h
    have h0 : ∀ k, comT (tabOf a) (tabOf b) 0 k = false := fun k => by
      unfold comT
      rw [tabOf_zero hP.1 k]
      rfl
    have hc : WinsP (wtab (comT (tabOf a) (tabOf b)) 10) := (wtab_good h0).2 h1
    refine ⟨hb, hP.1, hP.2, hc, fun P hP1 hP9 => ?_⟩
    rw [hours_win hc, hours_win hP.1, hours_win hP.2, cnt_ext (fun k hk => tab_tab h0 (p := P) (by omega) hk)]
    constructor
    · exact Int.ofNat_le.2 (cnt_mono fun k _ hk => by
        unfold comT at hk
        exact (Bool.and_eq_true_iff.1 hk).1)
    · exact Int.ofNat_le.2 (cnt_mono fun k _ hk => by
        unfold comT at hk
        exact (Bool.and_eq_true_iff.1 hk).2)
  · rw [commonF_bad hP] at h
    cases h
end Go.Proofs.YtgbgmmdpldekbaaDoor
namespace Go.Proofs.YtgbgmmdpldekbaaDoor
open Go.RowKit

def encI : Option (Int × Int) → Int × Int
  | none => (168, 0)
  | some p => p
def encS : Option (Int × Int) → Int × Int
  | none => (-1, 0)
  | some p => p
def OkSt : Option (Int × Int) → Prop
  | none => True
  | some p => (0 ≤ p.1 ∧ p.1 ≤ 168) ∧ 1 ≤ p.2 ∧ p.2 ≤ 9

set_option maxHeartbeats 8000000 in
theorem i_FirstRoom (A : Option Addr) (c : Nat) (l : List W3) (h f : Int) (w : World) (hl : l.length ≤ 1048576) (hA : Rd w A l) :
    Calls Tryd.prog 26 #[.slice A l.length c, .int .i64 h, .int .i64 f] w fun e w' => e = .returned (.tuple #[.int .i64 (roomF l h f).1, .int .i64 (roomF l h f).2.1, .bool (roomF l h f).2.2]) ∧ Gw w w' := by
  go_enter Tryd.func26, Tryd.ntmps26
  go_wp2_with fail
  refine (i_AreWindows _ _ _ _ hl hA).mono ?_
  rintro _ w1 (⟨hp, rfl, hb1⟩ | ⟨hp, rfl, hb1⟩)
  case inr =>
    have hv : Hid (roomF l h f = (0, 0, false)) := roomF_bad (fun x => hp x.1)
    go_wp2_with fail
    go_ret3
    exact ⟨ret_iib hv.out, hb1⟩
  have HP := Lib.hid hp
  clear hp
  go_wp2_with fail
  refine (i_within _ _ _ _).mono ?_
  rintro _ w2 (⟨hh, rfl, rfl⟩ | ⟨hh, rfl, rfl⟩)
  case inr =>
    have hv : Hid (roomF l h f = (0, 0, false)) := roomF_bad (fun x => hh x.2.1)
    go_wp2_with fail
    go_ret3
    exact ⟨ret_iib hv.out, hb1⟩
  go_wp2_with fail
  refine (i_within _ _ _ _).mono ?_
  rintro _ w2 (⟨hf, rfl, rfl⟩ | ⟨hf, rfl, rfl⟩)
  case inr =>
    have hv : Hid (roomF l h f = (0, 0, false)) := roomF_bad (fun x => hf x.2.2)
    go_wp2_with fail
    go_ret3
    exact ⟨ret_iib hv.out, hb1⟩
  have hh1 : 1 ≤ h ∧ h ≤ 168 := hh
  have hf1 : 0 ≤ f ∧ f ≤ 167 := hf
  clear hh hf
  go_wp2_with fail
  go_loopw [9, 10, 12, 13, 29] (fun q p _ _ i wr => ∃ (k : Nat) (st : Option (Int × Int)), i = .int .i64 k ∧ q = .int .i64 (encI st).1 ∧ p = .int .i64 (encI st).2 ∧ k ≤ l.length ∧ Hid (st = roomGo h f (l.take k)) ∧ Hid (OkSt st) ∧ Gw w wr) (fun _ _ _ _ i _ => l.length - (intOf i).toNat)
  case atStart => exact ⟨0, none, by go_num, by unfold encI; go_num, by unfold encI; go_num, Nat.zero_le _, rfl, trivial, hb1⟩
  case round =>
    obtain ⟨k, st, rfl, rfl, rfl, hk, hst, hok, hgw⟩ := hrel
    by_cases hlt : k < l.length
    · obtain ⟨x, hx⟩ := get_of_lt hlt
      have hwx := HP.out.1 x (mem_of_get hx)
      have hnext := roomGo_take (h := h) (f := f) hx
      obtain ⟨x1, x2, x3⟩ := x
      have hwx : (1 ≤ x1 ∧ x1 ≤ 9) ∧ 0 ≤ x2 ∧ x2 < x3 ∧ x3 ≤ 168 := by
        have : WinP x1 x2 x3 := hwx
        omega
      obtain ⟨b', off, hae, hbl, c0, c1, c2⟩ := (hA.gw hgw).get3 hx
      subst hae
      dsimp only at c0 c1 c2 hnext
      clear hx
      have hbb : b' < wr.heap.size + 1 := by omega
      by_cases hxf : x2 ≤ f
      · have hmx : max x2 f = f := Int.max_eq_right hxf
        unfold roomStep at hnext
        dsimp only at hnext
        rw [hmx] at hnext
        have wm : IntKind.i64.wrap (f + h) = f + h := IntWalk.i64_in _ (by omega)
        cases st with
        | none =>
          dsimp only [encI]
          by_cases g1 : f + h ≤ x3
          · have hn : Hid (some (f, x1) = roomGo h f (l.take (k + 1))) := by unfold Hid; rw [hnext, ← hst.out, if_pos ⟨g1, rfl⟩]
            clear hnext
            go_wp2_with ((with_reducible refine wp_region_gw (by kernel_rfl) (by kernel_rfl) ?_); have hcq := @GwOf.cell; (repeat (go_big_quiet_step (fail))); refine wpQuiet_nil ?_; clear hcq; rintro w' ⟨⟨w', hb⟩, rfl⟩; (try dsimp only); have hc := hb.cells; have hf := hb.frozens; have hz := hb.size; (try simp at hz); (try have hz0 : w.heap.size < w'.heap.size := (by omega)); (try have hz1 : w.heap.size + 1 < w'.heap.size := (by omega)); (try have hz2 : w.heap.size + 2 < w'.heap.size := (by omega)); (try have hz3 : w.heap.size + 3 < w'.heap.size := (by omega)); (try have hz4 : w.heap.size + 4 < w'.heap.size := (by omega)); (try have hz5 : w.heap.size + 5 < w'.heap.size := (by omega)))
            all_goals
              go_roundw
              case rel => exact ⟨k + 1, some (f, x1), by go_num, (by first | rfl | exact congrArg (Value.int .i64) (show x2 = f by omega)), rfl, by omega, hn, by unfold Hid OkSt; dsimp only; (try trivial); (try omega), by (repeat (first | with_reducible exact Gw.refl _ | with_reducible assumption | ((with_reducible refine Gw.set ?_ ?_ _); rotate_left; (focus (first | (simp; done) | (simp; omega) | omega))) | with_reducible refine Gw.alloc ?_ _ | with_reducible refine Gw.drew ?_ | with_reducible refine Gw.drewN ?_ _ | (refine Gw.trans ?_ (by with_reducible assumption))))⟩
              case measure => simp [intOf]; omega
          · have hn : Hid (none = roomGo h f (l.take (k + 1))) := by unfold Hid; rw [hnext, ← hst.out, if_neg (fun x => g1 x.1)]
            clear hnext
            go_wp2_with ((with_reducible refine wp_region_gw (by kernel_rfl) (by kernel_rfl) ?_); have hcq := @GwOf.cell; (repeat (go_big_quiet_step (fail))); refine wpQuiet_nil ?_; clear hcq; rintro w' ⟨⟨w', hb⟩, rfl⟩; (try dsimp only); have hc := hb.cells; have hf := hb.frozens; have hz := hb.size; (try simp at hz); (try have hz0 : w.heap.size < w'.heap.size := (by omega)); (try have hz1 : w.heap.size + 1 < w'.heap.size := (by omega)); (try have hz2 : w.heap.size + 2 < w'.heap.size := (by omega)); (try have hz3 : w.heap.size + 3 < w'.heap.size := (by omega)); (try have hz4 : w.heap.size + 4 < w'.heap.size := (by omega)); (try have hz5 : w.heap.size + 5 < w'.heap.size := (by omega)))
            all_goals
              go_roundw
              case rel => exact ⟨k + 1, none, by go_num, (by first | rfl | exact congrArg (Value.int .i64) (show x2 = f by omega)), rfl, by omega, hn, by unfold Hid OkSt; dsimp only; (try trivial); (try omega), by (repeat (first | with_reducible exact Gw.refl _ | with_reducible assumption | ((with_reducible refine Gw.set ?_ ?_ _); rotate_left; (focus (first | (simp; done) | (simp; omega) | omega))) | with_reducible refine Gw.alloc ?_ _ | with_reducible refine Gw.drew ?_ | with_reducible refine Gw.drewN ?_ _ | (refine Gw.trans ?_ (by with_reducible assumption))))⟩
              case measure => simp [intOf]; omega
        | some q =>
          obtain ⟨q1, q2⟩ := q
          have hqb : (0 ≤ q1 ∧ q1 ≤ 168) ∧ 1 ≤ q2 ∧ q2 ≤ 9 := hok.out
          dsimp only [encI]
          by_cases g1 : f + h ≤ x3
          · by_cases g2 : f < q1
            · have hn : Hid (some (f, x1) = roomGo h f (l.take (k + 1))) := by unfold Hid; rw [hnext, ← hst.out, if_pos ⟨g1, decide_eq_true g2⟩]
              clear hnext
              go_wp2_with ((with_reducible refine wp_region_gw (by kernel_rfl) (by kernel_rfl) ?_); have hcq := @GwOf.cell; (repeat (go_big_quiet_step (fail))); refine wpQuiet_nil ?_; clear hcq; rintro w' ⟨⟨w', hb⟩, rfl⟩; (try dsimp only); have hc := hb.cells; have hf := hb.frozens; have hz := hb.size; (try simp at hz); (try have hz0 : w.heap.size < w'.heap.size := (by omega)); (try have hz1 : w.heap.size + 1 < w'.heap.size := (by omega)); (try have hz2 : w.heap.size + 2 < w'.heap.size := (by omega)); (try have hz3 : w.heap.size + 3 < w'.heap.size := (by omega)); (try have hz4 : w.heap.size + 4 < w'.heap.size := (by omega)); (try have hz5 : w.heap.size + 5 < w'.heap.size := (by omega)))
              all_goals
                go_roundw
                case rel => exact ⟨k + 1, some (f, x1), by go_num, (by first | rfl | exact congrArg (Value.int .i64) (show x2 = f by omega)), rfl, by omega, hn, by unfold Hid OkSt; dsimp only; (try trivial); (try omega), by (repeat (first | with_reducible exact Gw.refl _ | with_reducible assumption | ((with_reducible refine Gw.set ?_ ?_ _); rotate_left; (focus (first | (simp; done) | (simp; omega) | omega))) | with_reducible refine Gw.alloc ?_ _ | with_reducible refine Gw.drew ?_ | with_reducible refine Gw.drewN ?_ _ | (refine Gw.trans ?_ (by with_reducible assumption))))⟩
                case measure => simp [intOf]; omega
            · have hn : Hid (some (q1, q2) = roomGo h f (l.take (k + 1))) := by unfold Hid; rw [hnext, ← hst.out, if_neg (fun x => g2 (of_decide_eq_true x.2))]
              clear hnext
              go_wp2_with ((with_reducible refine wp_region_gw (by kernel_rfl) (by kernel_rfl) ?_); have hcq := @GwOf.cell; (repeat (go_big_quiet_step (fail))); refine wpQuiet_nil ?_; clear hcq; rintro w' ⟨⟨w', hb⟩, rfl⟩; (try dsimp only); have hc := hb.cells; have hf := hb.frozens; have hz := hb.size; (try simp at hz); (try have hz0 : w.heap.size < w'.heap.size := (by omega)); (try have hz1 : w.heap.size + 1 < w'.heap.size := (by omega)); (try have hz2 : w.heap.size + 2 < w'.heap.size := (by omega)); (try have hz3 : w.heap.size + 3 < w'.heap.size := (by omega)); (try have hz4 : w.heap.size + 4 < w'.heap.size := (by omega)); (try have hz5 : w.heap.size + 5 < w'.heap.size := (by omega)))
              all_goals
                go_roundw
                case rel => exact ⟨k + 1, some (q1, q2), by go_num, (by first | rfl | exact congrArg (Value.int .i64) (show x2 = f by omega)), rfl, by omega, hn, by unfold Hid OkSt; dsimp only; (try trivial); (try omega), by (repeat (first | with_reducible exact Gw.refl _ | with_reducible assumption | ((with_reducible refine Gw.set ?_ ?_ _); rotate_left; (focus (first | (simp; done) | (simp; omega) | omega))) | with_reducible refine Gw.alloc ?_ _ | with_reducible refine Gw.drew ?_ | with_reducible refine Gw.drewN ?_ _ | (refine Gw.trans ?_ (by with_reducible assumption))))⟩
                case measure => simp [intOf]; omega
          · have hn : Hid (some (q1, q2) = roomGo h f (l.take (k + 1))) := by unfold Hid; rw [hnext, ← hst.out, if_neg (fun x => g1 x.1)]
            clear hnext
            go_wp2_with ((with_reducible refine wp_region_gw (by kernel_rfl) (by kernel_rfl) ?_); have hcq := @GwOf.cell; (repeat (go_big_quiet_step (fail))); refine wpQuiet_nil ?_; clear hcq; rintro w' ⟨⟨w', hb⟩, rfl⟩; (try dsimp only); have hc := hb.cells; have hf := hb.frozens; have hz := hb.size; (try simp at hz); (try have hz0 : w.heap.size < w'.heap.size := (by omega)); (try have hz1 : w.heap.size + 1 < w'.heap.size := (by omega)); (try have hz2 : w.heap.size + 2 < w'.heap.size := (by omega)); (try have hz3 : w.heap.size + 3 < w'.heap.size := (by omega)); (try have hz4 : w.heap.size + 4 < w'.heap.size := (by omega)); (try have hz5 : w.heap.size + 5 < w'.heap.size := (by omega)))
            all_goals
              go_roundw
              case rel => exact ⟨k + 1, some (q1, q2), by go_num, (by first | rfl | exact congrArg (Value.int .i64) (show x2 = f by omega)), rfl, by omega, hn, by unfold Hid OkSt; dsimp only; (try trivial); (try omega), by (repeat (first | with_reducible exact Gw.refl _ | with_reducible assumption | ((with_reducible refine Gw.set ?_ ?_ _); rotate_left; (focus (first | (simp; done) | (simp; omega) | omega))) | with_reducible refine Gw.alloc ?_ _ | with_reducible refine Gw.drew ?_ | with_reducible refine Gw.drewN ?_ _ | (refine Gw.trans ?_ (by with_reducible assumption))))⟩
              case measure => simp [intOf]; omega
      · have hmx : max x2 f = x2 := Int.max_eq_left (by omega)
        unfold roomStep at hnext
        dsimp only at hnext
        rw [hmx] at hnext
        have wm : IntKind.i64.wrap (x2 + h) = x2 + h := IntWalk.i64_in _ (by omega)
        cases st with
        | none =>
          dsimp only [encI]
          by_cases g1 : x2 + h ≤ x3
          · have hn : Hid (some (x2, x1) = roomGo h f (l.take (k + 1))) := by unfold Hid; rw [hnext, ← hst.out, if_pos ⟨g1, rfl⟩]
            clear hnext
            go_wp2_with ((with_reducible refine wp_region_gw (by kernel_rfl) (by kernel_rfl) ?_); have hcq := @GwOf.cell; (repeat (go_big_quiet_step (fail))); refine wpQuiet_nil ?_; clear hcq; rintro w' ⟨⟨w', hb⟩, rfl⟩; (try dsimp only); have hc := hb.cells; have hf := hb.frozens; have hz := hb.size; (try simp at hz); (try have hz0 : w.heap.size < w'.heap.size := (by omega)); (try have hz1 : w.heap.size + 1 < w'.heap.size := (by omega)); (try have hz2 : w.heap.size + 2 < w'.heap.size := (by omega)); (try have hz3 : w.heap.size + 3 < w'.heap.size := (by omega)); (try have hz4 : w.heap.size + 4 < w'.heap.size := (by omega)); (try have hz5 : w.heap.size + 5 < w'.heap.size := (by omega)))
            all_goals
              go_roundw
              case rel => exact ⟨k + 1, some (x2, x1), by go_num, (by first | rfl | exact congrArg (Value.int .i64) (show x2 = f by omega)), rfl, by omega, hn, by unfold Hid OkSt; dsimp only; (try trivial); (try omega), by (repeat (first | with_reducible exact Gw.refl _ | with_reducible assumption | ((with_reducible refine Gw.set ?_ ?_ _); rotate_left; (focus (first | (simp; done) | (simp; omega) | omega))) | with_reducible refine Gw.alloc ?_ _ | with_reducible refine Gw.drew ?_ | with_reducible refine Gw.drewN ?_ _ | (refine Gw.trans ?_ (by with_reducible assumption))))⟩
              case measure => simp [intOf]; omega
          · have hn : Hid (none = roomGo h f (l.take (k + 1))) := by unfold Hid; rw [hnext, ← hst.out, if_neg (fun x => g1 x.1)]
            clear hnext
            go_wp2_with ((with_reducible refine wp_region_gw (by kernel_rfl) (by kernel_rfl) ?_); have hcq := @GwOf.cell; (repeat (go_big_quiet_step (fail))); refine wpQuiet_nil ?_; clear hcq; rintro w' ⟨⟨w', hb⟩, rfl⟩; (try dsimp only); have hc := hb.cells; have hf := hb.frozens; have hz := hb.size; (try simp at hz); (try have hz0 : w.heap.size < w'.heap.size := (by omega)); (try have hz1 : w.heap.size + 1 < w'.heap.size := (by omega)); (try have hz2 : w.heap.size + 2 < w'.heap.size := (by omega)); (try have hz3 : w.heap.size + 3 < w'.heap.size := (by omega)); (try have hz4 : w.heap.size + 4 < w'.heap.size := (by omega)); (try have hz5 : w.heap.size + 5 < w'.heap.size := (by omega)))
            all_goals
              go_roundw
              case rel => exact ⟨k + 1, none, by go_num, (by first | rfl | exact congrArg (Value.int .i64) (show x2 = f by omega)), rfl, by omega, hn, by unfold Hid OkSt; dsimp only; (try trivial); (try omega), by (repeat (first | with_reducible exact Gw.refl _ | with_reducible assumption | ((with_reducible refine Gw.set ?_ ?_ _); rotate_left; (focus (first | (simp; done) | (simp; omega) | omega))) | with_reducible refine Gw.alloc ?_ _ | with_reducible refine Gw.drew ?_ | with_reducible refine Gw.drewN ?_ _ | (refine Gw.trans ?_ (by with_reducible assumption))))⟩
              case measure => simp [intOf]; omega
        | some q =>
          obtain ⟨q1, q2⟩ := q
          have hqb : (0 ≤ q1 ∧ q1 ≤ 168) ∧ 1 ≤ q2 ∧ q2 ≤ 9 := hok.out
          dsimp only [encI]
          by_cases g1 : x2 + h ≤ x3
          · by_cases g2 : x2 < q1
            · have hn : Hid (some (x2, x1) = roomGo h f (l.take (k + 1))) := by unfold Hid; rw [hnext, ← hst.out, if_pos ⟨g1, decide_eq_true g2⟩]
              clear hnext
              go_wp2_with ((with_reducible refine wp_region_gw (by kernel_rfl) (by kernel_rfl) ?_); have hcq := @GwOf.cell; (repeat (go_big_quiet_step (fail))); refine wpQuiet_nil ?_; clear hcq; rintro w' ⟨⟨w', hb⟩, rfl⟩; (try dsimp only); have hc := hb.cells; have hf := hb.frozens; have hz := hb.size; (try simp at hz); (try have hz0 : w.heap.size < w'.heap.size := (by omega)); (try have hz1 : w.heap.size + 1 < w'.heap.size := (by omega)); (try have hz2 : w.heap.size + 2 < w'.heap.size := (by omega)); (try have hz3 : w.heap.size + 3 < w'.heap.size := (by omega)); (try have hz4 : w.heap.size + 4 < w'.heap.size := (by omega)); (try have hz5 : w.heap.size + 5 < w'.heap.size := (by omega)))
              all_goals
                go_roundw
                case rel => exact ⟨k + 1, some (x2, x1), by go_num, (by first | rfl | exact congrArg (Value.int .i64) (show x2 = f by omega)), rfl, by omega, hn, by unfold Hid OkSt; dsimp only; (try trivial); (try omega), by (repeat (first | with_reducible exact Gw.refl _ | with_reducible assumption | ((with_reducible refine Gw.set ?_ ?_ _); rotate_left; (focus (first | (simp; done) | (simp; omega) | omega))) | with_reducible refine Gw.alloc ?_ _ | with_reducible refine Gw.drew ?_ | with_reducible refine Gw.drewN ?_ _ | (refine Gw.trans ?_ (by with_reducible assumption))))⟩
                case measure => simp [intOf]; omega
            · have hn : Hid (some (q1, q2) = roomGo h f (l.take (k + 1))) := by unfold Hid; rw [hnext, ← hst.out, if_neg (fun x => g2 (of_decide_eq_true x.2))]
              clear hnext
              go_wp2_with ((with_reducible refine wp_region_gw (by kernel_rfl) (by kernel_rfl) ?_); have hcq := @GwOf.cell; (repeat (go_big_quiet_step (fail))); refine wpQuiet_nil ?_; clear hcq; rintro w' ⟨⟨w', hb⟩, rfl⟩; (try dsimp only); have hc := hb.cells; have hf := hb.frozens; have hz := hb.size; (try simp at hz); (try have hz0 : w.heap.size < w'.heap.size := (by omega)); (try have hz1 : w.heap.size + 1 < w'.heap.size := (by omega)); (try have hz2 : w.heap.size + 2 < w'.heap.size := (by omega)); (try have hz3 : w.heap.size + 3 < w'.heap.size := (by omega)); (try have hz4 : w.heap.size + 4 < w'.heap.size := (by omega)); (try have hz5 : w.heap.size + 5 < w'.heap.size := (by omega)))
              all_goals
                go_roundw
                case rel => exact ⟨k + 1, some (q1, q2), by go_num, (by first | rfl | exact congrArg (Value.int .i64) (show x2 = f by omega)), rfl, by omega, hn, by unfold Hid OkSt; dsimp only; (try trivial); (try omega), by (repeat (first | with_reducible exact Gw.refl _ | with_reducible assumption | ((with_reducible refine Gw.set ?_ ?_ _); rotate_left; (focus (first | (simp; done) | (simp; omega) | omega))) | with_reducible refine Gw.alloc ?_ _ | with_reducible refine Gw.drew ?_ | with_reducible refine Gw.drewN ?_ _ | (refine Gw.trans ?_ (by with_reducible assumption))))⟩
                case measure => simp [intOf]; omega
          · have hn : Hid (some (q1, q2) = roomGo h f (l.take (k + 1))) := by unfold Hid; rw [hnext, ← hst.out, if_neg (fun x => g1 x.1)]
            clear hnext
            go_wp2_with ((with_reducible refine wp_region_gw (by kernel_rfl) (by kernel_rfl) ?_); have hcq := @GwOf.cell; (repeat (go_big_quiet_step (fail))); refine wpQuiet_nil ?_; clear hcq; rintro w' ⟨⟨w', hb⟩, rfl⟩; (try dsimp only); have hc := hb.cells; have hf := hb.frozens; have hz := hb.size; (try simp at hz); (try have hz0 : w.heap.size < w'.heap.size := (by omega)); (try have hz1 : w.heap.size + 1 < w'.heap.size := (by omega)); (try have hz2 : w.heap.size + 2 < w'.heap.size := (by omega)); (try have hz3 : w.heap.size + 3 < w'.heap.size := (by omega)); (try have hz4 : w.heap.size + 4 < w'.heap.size := (by omega)); (try have hz5 : w.heap.size + 5 < w'.heap.size := (by omega)))
            all_goals
              go_roundw
              case rel => exact ⟨k + 1, some (q1, q2), by go_num, (by first | rfl | exact congrArg (Value.int .i64) (show x2 = f by omega)), rfl, by omega, hn, by unfold Hid OkSt; dsimp only; (try trivial); (try omega), by (repeat (first | with_reducible exact Gw.refl _ | with_reducible assumption | ((with_reducible refine Gw.set ?_ ?_ _); rotate_left; (focus (first | (simp; done) | (simp; omega) | omega))) | with_reducible refine Gw.alloc ?_ _ | with_reducible refine Gw.drew ?_ | with_reducible refine Gw.drewN ?_ _ | (refine Gw.trans ?_ (by with_reducible assumption))))⟩
              case measure => simp [intOf]; omega
    · obtain rfl : k = l.length := by omega
      rw [List.take_length] at hst
      cases st with
      | none =>
        have hv : Hid (roomF l h f = (0, 0, false)) := roomF_none hst.out.symm
        dsimp only [encI]
        go_wp2_with fail
        go_ret3
        exact ⟨ret_iib hv.out, hgw⟩
      | some q =>
        obtain ⟨q1, q2⟩ := q
        have hqb : (0 ≤ q1 ∧ q1 ≤ 168) ∧ 1 ≤ q2 ∧ q2 ≤ 9 := hok.out
        have hv : Hid (roomF l h f = (q1, q2, true)) := roomF_some ⟨HP.out, hh1, hf1⟩ hst.out.symm
        dsimp only [encI]
        go_wp2_with fail
        go_ret3
        exact ⟨ret_iib hv.out, hgw⟩

set_option maxHeartbeats 8000000 in
theorem s_FirstRoom (A : Option Addr) (c : Nat) (l : List W3) (h f : Int) (w : World) (hl : l.length ≤ 1048576) (hA : Rd w A l) :
    Calls Tryd.prog 27 #[.slice A l.length c, .int .i64 h, .int .i64 f] w fun e w' => e = .returned (.tuple #[.int .i64 (roomF l h f).1, .int .i64 (roomF l h f).2.1, .bool (roomF l h f).2.2]) ∧ Gw w w' := by
  go_enter Tryd.func27, Tryd.ntmps27
  go_wp2_with fail
  refine (s_wnGood _ _ _ _ hl hA).mono ?_
  rintro _ w1 (⟨hp, rfl, hb1⟩ | ⟨hp, rfl, hb1⟩)
  case inr =>
    have hv : Hid (roomF l h f = (0, 0, false)) := roomF_bad (fun x => hp x.1)
    go_wp2_with fail
    go_ret3
    exact ⟨ret_iib hv.out, hb1⟩
  have HP := Lib.hid hp
  clear hp
  go_wp2_with fail
  refine (s_l1In _ _ _ _).mono ?_
  rintro _ w2 (⟨hh, rfl, rfl⟩ | ⟨hh, rfl, rfl⟩)
  case inr =>
    have hv : Hid (roomF l h f = (0, 0, false)) := roomF_bad (fun x => hh x.2.1)
    go_wp2_with fail
    go_ret3
    exact ⟨ret_iib hv.out, hb1⟩
  go_wp2_with fail
  refine (s_wnHour _ _).mono ?_
  rintro _ w2 (⟨hf, rfl, rfl⟩ | ⟨hf, rfl, rfl⟩)
  case inr =>
    have hv : Hid (roomF l h f = (0, 0, false)) := roomF_bad (fun x => hf x.2.2)
    go_wp2_with fail
    go_ret3
    exact ⟨ret_iib hv.out, hb1⟩
  have hh1 : 1 ≤ h ∧ h ≤ 168 := hh
  have hf1 : 0 ≤ f ∧ f ≤ 167 := hf
  clear hh hf
  go_wp2_with fail
  go_loopw [9, 10, 12, 13, 29] (fun q p _ _ i wr => ∃ (k : Nat) (st : Option (Int × Int)), i = .int .i64 k ∧ q = .int .i64 (encS st).1 ∧ p = .int .i64 (encS st).2 ∧ k ≤ l.length ∧ Hid (st = roomGo h f (l.take k)) ∧ Hid (OkSt st) ∧ Gw w wr) (fun _ _ _ _ i _ => l.length - (intOf i).toNat)
  case atStart => exact ⟨0, none, by go_num, by unfold encS; go_num, by unfold encS; go_num, Nat.zero_le _, rfl, trivial, hb1⟩
  case round =>
    obtain ⟨k, st, rfl, rfl, rfl, hk, hst, hok, hgw⟩ := hrel
    by_cases hlt : k < l.length
    · obtain ⟨x, hx⟩ := get_of_lt hlt
      have hwx := HP.out.1 x (mem_of_get hx)
      have hnext := roomGo_take (h := h) (f := f) hx
      obtain ⟨x1, x2, x3⟩ := x
      have hwx : (1 ≤ x1 ∧ x1 ≤ 9) ∧ 0 ≤ x2 ∧ x2 < x3 ∧ x3 ≤ 168 := by
        have : WinP x1 x2 x3 := hwx
        omega
      obtain ⟨b', off, hae, hbl, c0, c1, c2⟩ := (hA.gw hgw).get3 hx
      subst hae
      dsimp only at c0 c1 c2 hnext
      clear hx
      have hbb : b' < wr.heap.size + 1 := by omega
      have wm : IntKind.i64.wrap (max x2 f + h) = max x2 f + h := IntWalk.i64_in _ (by omega)
      cases st with
      | none =>
        dsimp only [encS]
        by_cases g1 : max x2 f + h ≤ x3
        · have hn : Hid (some (max x2 f, x1) = roomGo h f (l.take (k + 1))) := by unfold Hid; rw [hnext, ← hst.out, roomStep, if_pos ⟨g1, rfl⟩]
          clear hnext
          go_wp2_with (first | (go_at_call 71; refine (s_l1Most _ _ _).mono ?_; rintro e w' ⟨rfl, rfl⟩))
          all_goals
            go_roundw
            case rel => exact ⟨k + 1, some (max x2 f, x1), by go_num, (by first | rfl | exact congrArg (Value.int .i64) (show x2 = f by omega)), rfl, by omega, hn, by unfold Hid OkSt; dsimp only; (try trivial); (try omega), by (repeat (first | with_reducible exact Gw.refl _ | with_reducible assumption | ((with_reducible refine Gw.set ?_ ?_ _); rotate_left; (focus (first | (simp; done) | (simp; omega) | omega))) | with_reducible refine Gw.alloc ?_ _ | with_reducible refine Gw.drew ?_ | with_reducible refine Gw.drewN ?_ _ | (refine Gw.trans ?_ (by with_reducible assumption))))⟩
            case measure => simp [intOf]; omega
        · have hn : Hid (none = roomGo h f (l.take (k + 1))) := by unfold Hid; rw [hnext, ← hst.out, roomStep, if_neg (fun x => g1 x.1)]
          clear hnext
          go_wp2_with (first | (go_at_call 71; refine (s_l1Most _ _ _).mono ?_; rintro e w' ⟨rfl, rfl⟩))
          all_goals
            go_roundw
            case rel => exact ⟨k + 1, none, by go_num, (by first | rfl | exact congrArg (Value.int .i64) (show x2 = f by omega)), rfl, by omega, hn, by unfold Hid OkSt; dsimp only; (try trivial); (try omega), by (repeat (first | with_reducible exact Gw.refl _ | with_reducible assumption | ((with_reducible refine Gw.set ?_ ?_ _); rotate_left; (focus (first | (simp; done) | (simp; omega) | omega))) | with_reducible refine Gw.alloc ?_ _ | with_reducible refine Gw.drew ?_ | with_reducible refine Gw.drewN ?_ _ | (refine Gw.trans ?_ (by with_reducible assumption))))⟩
            case measure => simp [intOf]; omega
      | some q =>
        obtain ⟨q1, q2⟩ := q
        have hqb : (0 ≤ q1 ∧ q1 ≤ 168) ∧ 1 ≤ q2 ∧ q2 ≤ 9 := hok.out
        dsimp only [encS]
        by_cases g1 : max x2 f + h ≤ x3
        · by_cases g2 : max x2 f < q1
          · have hn : Hid (some (max x2 f, x1) = roomGo h f (l.take (k + 1))) := by unfold Hid; rw [hnext, ← hst.out, roomStep, if_pos ⟨g1, decide_eq_true g2⟩]
            clear hnext
            go_wp2_with (first | (go_at_call 71; refine (s_l1Most _ _ _).mono ?_; rintro e w' ⟨rfl, rfl⟩))
            all_goals
              go_roundw
              case rel => exact ⟨k + 1, some (max x2 f, x1), by go_num, (by first | rfl | exact congrArg (Value.int .i64) (show x2 = f by omega)), rfl, by omega, hn, by unfold Hid OkSt; dsimp only; (try trivial); (try omega), by (repeat (first | with_reducible exact Gw.refl _ | with_reducible assumption | ((with_reducible refine Gw.set ?_ ?_ _); rotate_left; (focus (first | (simp; done) | (simp; omega) | omega))) | with_reducible refine Gw.alloc ?_ _ | with_reducible refine Gw.drew ?_ | with_reducible refine Gw.drewN ?_ _ | (refine Gw.trans ?_ (by with_reducible assumption))))⟩
              case measure => simp [intOf]; omega
          · have hn : Hid (some (q1, q2) = roomGo h f (l.take (k + 1))) := by unfold Hid; rw [hnext, ← hst.out, roomStep, if_neg (fun x => g2 (of_decide_eq_true x.2))]
            clear hnext
            go_wp2_with (first | (go_at_call 71; refine (s_l1Most _ _ _).mono ?_; rintro e w' ⟨rfl, rfl⟩))
            all_goals
              go_roundw
              case rel => exact ⟨k + 1, some (q1, q2), by go_num, (by first | rfl | exact congrArg (Value.int .i64) (show x2 = f by omega)), rfl, by omega, hn, by unfold Hid OkSt; dsimp only; (try trivial); (try omega), by (repeat (first | with_reducible exact Gw.refl _ | with_reducible assumption | ((with_reducible refine Gw.set ?_ ?_ _); rotate_left; (focus (first | (simp; done) | (simp; omega) | omega))) | with_reducible refine Gw.alloc ?_ _ | with_reducible refine Gw.drew ?_ | with_reducible refine Gw.drewN ?_ _ | (refine Gw.trans ?_ (by with_reducible assumption))))⟩
              case measure => simp [intOf]; omega
        · have hn : Hid (some (q1, q2) = roomGo h f (l.take (k + 1))) := by unfold Hid; rw [hnext, ← hst.out, roomStep, if_neg (fun x => g1 x.1)]
          clear hnext
          go_wp2_with (first | (go_at_call 71; refine (s_l1Most _ _ _).mono ?_; rintro e w' ⟨rfl, rfl⟩))
          all_goals
            go_roundw
            case rel => exact ⟨k + 1, some (q1, q2), by go_num, (by first | rfl | exact congrArg (Value.int .i64) (show x2 = f by omega)), rfl, by omega, hn, by unfold Hid OkSt; dsimp only; (try trivial); (try omega), by (repeat (first | with_reducible exact Gw.refl _ | with_reducible assumption | ((with_reducible refine Gw.set ?_ ?_ _); rotate_left; (focus (first | (simp; done) | (simp; omega) | omega))) | with_reducible refine Gw.alloc ?_ _ | with_reducible refine Gw.drew ?_ | with_reducible refine Gw.drewN ?_ _ | (refine Gw.trans ?_ (by with_reducible assumption))))⟩
            case measure => simp [intOf]; omega
    · obtain rfl : k = l.length := by omega
      rw [List.take_length] at hst
      cases st with
      | none =>
        have hv : Hid (roomF l h f = (0, 0, false)) := roomF_none hst.out.symm
        dsimp only [encS]
        go_wp2_with fail
        go_ret3
        exact ⟨ret_iib hv.out, hgw⟩
      | some q =>
        obtain ⟨q1, q2⟩ := q
        have hqb : (0 ≤ q1 ∧ q1 ≤ 168) ∧ 1 ≤ q2 ∧ q2 ≤ 9 := hok.out
        have hv : Hid (roomF l h f = (q1, q2, true)) := roomF_some ⟨HP.out, hh1, hf1⟩ hst.out.symm
        dsimp only [encS]
        go_wp2_with fail
        go_ret3
        exact ⟨ret_iib hv.out, hgw⟩

set_option maxHeartbeats 4000000 in
theorem i_LongestWindow (A : Option Addr) (c : Nat) (l : List W3) (w : World) (hl : l.length ≤ 1048576) (hA : Rd w A l) :
    Calls Tryd.prog 39 #[.slice A l.length c] w fun e w' => e = .returned (.tuple #[.int .i64 (longF l).1, .bool (longF l).2]) ∧ Gw w w' := by
  go_enter Tryd.func39, Tryd.ntmps39
  go_wp2_with fail
  refine (i_AreWindows _ _ _ _ hl hA).mono ?_
  rintro _ w1 (⟨hp, rfl, hb1⟩ | ⟨hp, rfl, hb1⟩)
  case inr =>
    have hv : Hid (longF l = (0, false)) := longF_bad (fun x => hp x.1)
    clear hp
    go_wp2_with fail
    go_ret2
    exact ⟨ret_ib hv.out, hb1⟩
  have HP := Lib.hid hp
  clear hp
  by_cases h0 : l.length = 0
  · have hv : Hid (longF l = (0, false)) := longF_bad (fun x => by have := x.2; omega)
    go_wp2_with fail
    go_ret2
    exact ⟨ret_ib hv.out, hb1⟩
  go_wp2_with fail
  go_loopw [4, 5, 6, 17] (fun q _ _ i wr => ∃ (k m : Nat), i = .int .i64 k ∧ q = .int .i64 m ∧ k ≤ l.length ∧ m < l.length ∧ Hid (m = bstW l k) ∧ Gw w wr) (fun _ _ _ i _ => l.length - (intOf i).toNat)
  case atStart => exact ⟨0, 0, by go_num, by go_num, Nat.zero_le _, by omega, rfl, hb1⟩
  case round =>
    obtain ⟨k, m, rfl, rfl, hk, hm, hbst, hgw⟩ := hrel
    by_cases hlt : k < l.length
    · obtain ⟨x, hx⟩ := get_of_lt hlt
      obtain ⟨y, hy⟩ := get_of_lt hm
      have hwx := HP.out.1 x (mem_of_get hx)
      have hwy := HP.out.1 y (mem_of_get hy)
      obtain ⟨x1, x2, x3⟩ := x
      obtain ⟨y1, y2, y3⟩ := y
      have hwx : 0 ≤ x2 ∧ x2 < x3 ∧ x3 ≤ 168 := by
        have : WinP x1 x2 x3 := hwx
        omega
      have hwy : 0 ≤ y2 ∧ y2 < y3 ∧ y3 ≤ 168 := by
        have : WinP y1 y2 y3 := hwy
        omega
      have hAr := hA.gw hgw
      obtain ⟨b, off, hae, hb, c0, c1, c2⟩ := hAr.get3 hx
      subst hae
      obtain ⟨b', off', hae, hb', d0, d1, d2⟩ := hAr.get3 hy
      simp only [Option.some.injEq, Addr.mk.injEq, and_true] at hae
      obtain ⟨rfl, rfl⟩ := hae
      dsimp only at c0 c1 c2 d0 d1 d2
      have Hx := Lib.hid hx
      have Hy := Lib.hid hy
      clear hx hy
      have hbb : b < wr.heap.size + 1 := by omega
      have hw1 : IntKind.i64.wrap (x3 - x2) = x3 - x2 := IntWalk.i64_in _ (by omega)
      have hw2 : IntKind.i64.wrap (y3 - y2) = y3 - y2 := IntWalk.i64_in _ (by omega)
      by_cases hgt : y3 - y2 < x3 - x2
      · have e1 : decide (x3 - x2 > y3 - y2) = true := by simpa using hgt
        have hn : Hid (k = bstW l (k + 1)) := by
          unfold Hid
          rw [bstW]
          rw [if_pos]
          intro x y hx hy
          rw [Hx.out] at hx; rw [← hbst.out, Hy.out] at hy
          cases hx; cases hy
          exact hgt
        go_wp2_with ((with_reducible refine wp_region_gw (by kernel_rfl) (by kernel_rfl) ?_); have hcq := @GwOf.cell; (repeat (go_big_quiet_step (fail))); refine wpQuiet_nil ?_; clear hcq; rintro w' ⟨⟨w', hb⟩, rfl⟩; (try dsimp only); have hc := hb.cells; have hf := hb.frozens; have hz := hb.size; (try simp at hz); (try have hz0 : w.heap.size < w'.heap.size := (by omega)); (try have hz1 : w.heap.size + 1 < w'.heap.size := (by omega)); (try have hz2 : w.heap.size + 2 < w'.heap.size := (by omega)); (try have hz3 : w.heap.size + 3 < w'.heap.size := (by omega)); (try have hz4 : w.heap.size + 4 < w'.heap.size := (by omega)); (try have hz5 : w.heap.size + 5 < w'.heap.size := (by omega)))
        go_roundw
        case rel => exact ⟨k + 1, k, by go_num, by go_num, by omega, by omega, hn, by (repeat (first | with_reducible exact Gw.refl _ | with_reducible assumption | ((with_reducible refine Gw.set ?_ ?_ _); rotate_left; (focus (first | (simp; done) | (simp; omega) | omega))) | with_reducible refine Gw.alloc ?_ _ | with_reducible refine Gw.drew ?_ | with_reducible refine Gw.drewN ?_ _ | (refine Gw.trans ?_ (by with_reducible assumption))))⟩
        case measure => simp [intOf]; omega
      · have e1 : decide (x3 - x2 > y3 - y2) = false := by simpa using hgt
        have hn : Hid (m = bstW l (k + 1)) := by
          unfold Hid
          rw [bstW]
          rw [if_neg]
          · exact hbst.out
          · intro h
            exact hgt (h (x1, x2, x3) (y1, y2, y3) Hx.out (by rw [← hbst.out]; exact Hy.out))
        go_wp2_with ((with_reducible refine wp_region_gw (by kernel_rfl) (by kernel_rfl) ?_); have hcq := @GwOf.cell; (repeat (go_big_quiet_step (fail))); refine wpQuiet_nil ?_; clear hcq; rintro w' ⟨⟨w', hb⟩, rfl⟩; (try dsimp only); have hc := hb.cells; have hf := hb.frozens; have hz := hb.size; (try simp at hz); (try have hz0 : w.heap.size < w'.heap.size := (by omega)); (try have hz1 : w.heap.size + 1 < w'.heap.size := (by omega)); (try have hz2 : w.heap.size + 2 < w'.heap.size := (by omega)); (try have hz3 : w.heap.size + 3 < w'.heap.size := (by omega)); (try have hz4 : w.heap.size + 4 < w'.heap.size := (by omega)); (try have hz5 : w.heap.size + 5 < w'.heap.size := (by omega)))
        go_roundw
        case rel => exact ⟨k + 1, m, by go_num, by go_num, by omega, by omega, hn, by (repeat (first | with_reducible exact Gw.refl _ | with_reducible assumption | ((with_reducible refine Gw.set ?_ ?_ _); rotate_left; (focus (first | (simp; done) | (simp; omega) | omega))) | with_reducible refine Gw.alloc ?_ _ | with_reducible refine Gw.drew ?_ | with_reducible refine Gw.drewN ?_ _ | (refine Gw.trans ?_ (by with_reducible assumption))))⟩
        case measure => simp [intOf]; omega
    · obtain rfl : k = l.length := by omega
      have hfin : Hid (longF l = ((m : Int), true)) := by unfold Hid; rw [longF_good ⟨HP.out, by omega⟩, hbst.out]
      go_wp2_with fail
      go_ret2
      exact ⟨ret_ib hfin.out, by (repeat (first | with_reducible exact Gw.refl _ | with_reducible assumption | ((with_reducible refine Gw.set ?_ ?_ _); rotate_left; (focus (first | (simp; done) | (simp; omega) | omega))) | with_reducible refine Gw.alloc ?_ _ | with_reducible refine Gw.drew ?_ | with_reducible refine Gw.drewN ?_ _ | (refine Gw.trans ?_ (by with_reducible assumption))))⟩

set_option maxHeartbeats 4000000 in
theorem s_LongestWindow (A : Option Addr) (c : Nat) (l : List W3) (w : World) (hl : l.length ≤ 1048576) (hA : Rd w A l) :
    Calls Tryd.prog 40 #[.slice A l.length c] w fun e w' => e = .returned (.tuple #[.int .i64 (longF l).1, .bool (longF l).2]) ∧ Gw w w' := by
  go_enter Tryd.func40, Tryd.ntmps40
  go_wp2_with fail
  refine (s_wnGood _ _ _ _ hl hA).mono ?_
  rintro _ w1 (⟨hp, rfl, hb1⟩ | ⟨hp, rfl, hb1⟩)
  case inr =>
    have hv : Hid (longF l = (0, false)) := longF_bad (fun x => hp x.1)
    clear hp
    go_wp2_with fail
    go_ret2
    exact ⟨ret_ib hv.out, hb1⟩
  have HP := Lib.hid hp
  clear hp
  by_cases h0 : l.length = 0
  · have hv : Hid (longF l = (0, false)) := longF_bad (fun x => by have := x.2; omega)
    go_wp2_with fail
    go_ret2
    exact ⟨ret_ib hv.out, hb1⟩
  go_wp2_with fail
  go_loopw [4, 5, 6, 17] (fun q _ _ i wr => ∃ (k m : Nat), i = .int .i64 k ∧ q = .int .i64 m ∧ k ≤ l.length ∧ m < l.length ∧ Hid (m = bstW l k) ∧ Gw w wr) (fun _ _ _ i _ => l.length - (intOf i).toNat)
  case atStart => exact ⟨0, 0, by go_num, by go_num, Nat.zero_le _, by omega, rfl, hb1⟩
  case round =>
    obtain ⟨k, m, rfl, rfl, hk, hm, hbst, hgw⟩ := hrel
    by_cases hlt : k < l.length
    · obtain ⟨x, hx⟩ := get_of_lt hlt
      obtain ⟨y, hy⟩ := get_of_lt hm
      have hwx := HP.out.1 x (mem_of_get hx)
      have hwy := HP.out.1 y (mem_of_get hy)
      obtain ⟨x1, x2, x3⟩ := x
      obtain ⟨y1, y2, y3⟩ := y
      have hwx : 0 ≤ x2 ∧ x2 < x3 ∧ x3 ≤ 168 := by
        have : WinP x1 x2 x3 := hwx
        omega
      have hwy : 0 ≤ y2 ∧ y2 < y3 ∧ y3 ≤ 168 := by
        have : WinP y1 y2 y3 := hwy
        omega
      have hAr := hA.gw hgw
      obtain ⟨b, off, hae, hb, c0, c1, c2⟩ := hAr.get3 hx
      subst hae
      obtain ⟨b', off', hae, hb', d0, d1, d2⟩ := hAr.get3 hy
      simp only [Option.some.injEq, Addr.mk.injEq, and_true] at hae
      obtain ⟨rfl, rfl⟩ := hae
      dsimp only at c0 c1 c2 d0 d1 d2
      have Hx := Lib.hid hx
      have Hy := Lib.hid hy
      clear hx hy
      have hbb : b < wr.heap.size + 1 := by omega
      have hw1 : IntKind.i64.wrap (x3 - x2) = x3 - x2 := IntWalk.i64_in _ (by omega)
      have hw2 : IntKind.i64.wrap (y3 - y2) = y3 - y2 := IntWalk.i64_in _ (by omega)
      by_cases hgt : y3 - y2 < x3 - x2
      · have e1 : decide (x3 - x2 > y3 - y2) = true := by simpa using hgt
        have hn : Hid (k = bstW l (k + 1)) := by
          unfold Hid
          rw [bstW]
          rw [if_pos]
          intro x y hx hy
          rw [Hx.out] at hx; rw [← hbst.out, Hy.out] at hy
          cases hx; cases hy
          exact hgt
        go_wp2_with ((with_reducible refine wp_region_gw (by kernel_rfl) (by kernel_rfl) ?_); have hcq := @GwOf.cell; (repeat (go_big_quiet_step (fail))); refine wpQuiet_nil ?_; clear hcq; rintro w' ⟨⟨w', hb⟩, rfl⟩; (try dsimp only); have hc := hb.cells; have hf := hb.frozens; have hz := hb.size; (try simp at hz); (try have hz0 : w.heap.size < w'.heap.size := (by omega)); (try have hz1 : w.heap.size + 1 < w'.heap.size := (by omega)); (try have hz2 : w.heap.size + 2 < w'.heap.size := (by omega)); (try have hz3 : w.heap.size + 3 < w'.heap.size := (by omega)); (try have hz4 : w.heap.size + 4 < w'.heap.size := (by omega)); (try have hz5 : w.heap.size + 5 < w'.heap.size := (by omega)))
        go_roundw
        case rel => exact ⟨k + 1, k, by go_num, by go_num, by omega, by omega, hn, by (repeat (first | with_reducible exact Gw.refl _ | with_reducible assumption | ((with_reducible refine Gw.set ?_ ?_ _); rotate_left; (focus (first | (simp; done) | (simp; omega) | omega))) | with_reducible refine Gw.alloc ?_ _ | with_reducible refine Gw.drew ?_ | with_reducible refine Gw.drewN ?_ _ | (refine Gw.trans ?_ (by with_reducible assumption))))⟩
        case measure => simp [intOf]; omega
      · have e1 : decide (x3 - x2 > y3 - y2) = false := by simpa using hgt
        have hn : Hid (m = bstW l (k + 1)) := by
          unfold Hid
          rw [bstW]
          rw [if_neg]
          · exact hbst.out
          · intro h
            exact hgt (h (x1, x2, x3) (y1, y2, y3) Hx.out (by rw [← hbst.out]; exact Hy.out))
        go_wp2_with ((with_reducible refine wp_region_gw (by kernel_rfl) (by kernel_rfl) ?_); have hcq := @GwOf.cell; (repeat (go_big_quiet_step (fail))); refine wpQuiet_nil ?_; clear hcq; rintro w' ⟨⟨w', hb⟩, rfl⟩; (try dsimp only); have hc := hb.cells; have hf := hb.frozens; have hz := hb.size; (try simp at hz); (try have hz0 : w.heap.size < w'.heap.size := (by omega)); (try have hz1 : w.heap.size + 1 < w'.heap.size := (by omega)); (try have hz2 : w.heap.size + 2 < w'.heap.size := (by omega)); (try have hz3 : w.heap.size + 3 < w'.heap.size := (by omega)); (try have hz4 : w.heap.size + 4 < w'.heap.size := (by omega)); (try have hz5 : w.heap.size + 5 < w'.heap.size := (by omega)))
        go_roundw
        case rel => exact ⟨k + 1, m, by go_num, by go_num, by omega, by omega, hn, by (repeat (first | with_reducible exact Gw.refl _ | with_reducible assumption | ((with_reducible refine Gw.set ?_ ?_ _); rotate_left; (focus (first | (simp; done) | (simp; omega) | omega))) | with_reducible refine Gw.alloc ?_ _ | with_reducible refine Gw.drew ?_ | with_reducible refine Gw.drewN ?_ _ | (refine Gw.trans ?_ (by with_reducible assumption))))⟩
        case measure => simp [intOf]; omega
    · obtain rfl : k = l.length := by omega
      have hfin : Hid (longF l = ((m : Int), true)) := by unfold Hid; rw [longF_good ⟨HP.out, by omega⟩, hbst.out]
      go_wp2_with fail
      go_ret2
      exact ⟨ret_ib hfin.out, by (repeat (first | with_reducible exact Gw.refl _ | with_reducible assumption | ((with_reducible refine Gw.set ?_ ?_ _); rotate_left; (focus (first | (simp; done) | (simp; omega) | omega))) | with_reducible refine Gw.alloc ?_ _ | with_reducible refine Gw.drew ?_ | with_reducible refine Gw.drewN ?_ _ | (refine Gw.trans ?_ (by with_reducible assumption))))⟩
end Go.Proofs.YtgbgmmdpldekbaaDoor
