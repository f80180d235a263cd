/-
  Moves that are too fast.
-/
import Derived.Test.YthokcddabgojgaaLasts
import Derived.Test.YthokcddabgojgaaLaw
import Derived.Test.YthokcddabgojgaaTyInt
import Derived.Test.YthokcddabgojgaaTyMove
namespace Go.Proofs.Ythokcddabgojgaa
open Go.RowKit

abbrev MvT := Int × Int × Int × Int × Int
abbrev MvP (x : MvT) : Prop := MoveP x.1 x.2.1 x.2.2.1 x.2.2.2.1 x.2.2.2.2
abbrev TooX (x : MvT) (F lim : Int) : Prop := FastP x.1 x.2.1 x.2.2.1 x.2.2.2.1 x.2.2.2.2 F lim
def n0 (l : List MvT) : Int := (l[0]?.getD (0, 0, 0, 0, 0)).2.2.2.2
theorem n0_of {l : List MvT} {x : MvT} (h : l[0]? = some x) : n0 l = x.2.2.2.2 := by unfold n0; rw [h]; rfl
def TogP (l : List MvT) : Prop := ∀ x ∈ l, MvP x ∧ x.2.2.2.2 = n0 l
def TooP (l : List MvT) (mu : List (Int × Int)) (f lim : Int) : Prop := (1 ≤ l.length ∧ l.length ≤ 12) ∧ (40 ≤ lim ∧ lim ≤ 5280) ∧ TogP l ∧ MusicP mu ∧ 0 ≤ f ∧ f + n0 l ≤ sumC mu
def fstF (mu : List (Int × Int)) (f : Int) : Nat → Int
  | 0 => 0
  | k + 1 => max (fstF mu f k) ((mu[idxF mu (f + k)]?.getD (0, 0)).2)
theorem fstF_succ {mu : List (Int × Int)} {f : Int} {k : Nat} {x : Int × Int} (h : mu[idxF mu (f + k)]? = some x) : fstF mu f (k + 1) = max (fstF mu f k) x.2 := by rw [fstF, h]; rfl
def tooL (l : List MvT) (F lim : Int) : Nat → List Int
  | 0 => []
  | k + 1 => if TooX (l[k]?.getD (0, 0, 0, 0, 0)) F lim then tooL l F lim k ++ [(k : Int)] else tooL l F lim k
theorem tooL_yes {l : List MvT} {F lim : Int} {k : Nat} {x : MvT} (h : l[k]? = some x) (g : TooX x F lim) : tooL l F lim (k + 1) = tooL l F lim k ++ [(k : Int)] := by rw [tooL, h]; exact if_pos g
theorem tooL_no {l : List MvT} {F lim : Int} {k : Nat} {x : MvT} (h : l[k]? = some x) (g : ¬TooX x F lim) : tooL l F lim (k + 1) = tooL l F lim k := by rw [tooL, h]; exact if_neg g
theorem tooL_len (l : List MvT) (F lim : Int) : ∀ k, (tooL l F lim k).length ≤ k
  | 0 => by simp [tooL]
  | k + 1 => by have := tooL_len l F lim k; rw [tooL]; split <;> simp <;> omega
open Classical in
noncomputable def tooF (l : List MvT) (mu : List (Int × Int)) (f lim : Int) : List Int × Bool := if TooP l mu f lim then (tooL l (fstF mu f (n0 l).toNat) lim l.length, true) else ([], false)
theorem tooF_bad {l : List MvT} {mu : List (Int × Int)} {f lim : Int} (h : ¬TooP l mu f lim) : tooF l mu f lim = ([], false) := by unfold tooF; rw [if_neg h]
theorem tooF_good {l : List MvT} {mu : List (Int × Int)} {f lim : Int} (h : TooP l mu f lim) : tooF l mu f lim = (tooL l (fstF mu f (n0 l).toNat) lim l.length, true) := by unfold tooF; rw [if_pos h]
theorem tooF_len (l : List MvT) (mu : List (Int × Int)) (f lim : Int) : (tooF l mu f lim).1.length ≤ 1048576 := by
  unfold tooF
  split
  · rename_i h
    have := tooL_len l (fstF mu f (n0 l).toNat) lim l.length
    have := h.1.2
    dsimp only
    omega
  · simp
theorem ret_ii2 {a b c d : Int} (h : a = c) (h' : b = d) : Ending.returned (.tuple #[.int .i64 a, .int .i64 b]) = .returned (.tuple #[.int .i64 c, .int .i64 d]) := by rw [h, h']
theorem ret_iib2 {a b c d : Int} (h : a = c) (h' : b = d) : Ending.returned (.tuple #[.int .i64 a, .int .i64 b, .bool true]) = .returned (.tuple #[.int .i64 c, .int .i64 d, .bool true]) := by rw [h, h']
theorem idx_here {l : List (Int × Int)} {k : Nat} {x : Int × Int} {c : Int} (h : l[k]? = some x) (hc : c < x.1) : idxF (l.drop k) c = 0 ∧ remF (l.drop k) c = c := by
  rw [drop_of h, idxF, remF, if_pos hc, if_pos hc]; exact ⟨rfl, rfl⟩
theorem idx_next {l : List (Int × Int)} {k : Nat} {x : Int × Int} {c : Int} (h : l[k]? = some x) (hc : ¬c < x.1) : idxF (l.drop k) c = idxF (l.drop (k + 1)) (c - x.1) + 1 ∧ remF (l.drop k) c = remF (l.drop (k + 1)) (c - x.1) := by
  rw [drop_of h, idxF, remF, if_neg hc, if_neg hc]; exact ⟨rfl, rfl⟩
theorem sumC_drop {l : List (Int × Int)} {k : Nat} {x : Int × Int} (h : l[k]? = some x) : sumC (l.drop k) = x.1 + sumC (l.drop (k + 1)) := by rw [drop_of h, sumC]

set_option maxHeartbeats 2000000 in
theorem s_muAt (A : Option Addr) (cap : Nat) (l : List (Int × Int)) (m : Int) (w : World) (hM : MusicP l) (hm0 : 0 ≤ m) (hm1 : m ≤ 1000) (hm : m < sumC l) (hA : Rd w A l) :
    Calls Try.prog 50 #[.slice A l.length cap, .int .i64 m] w fun e w' => e = .returned (.tuple #[.int .i64 (idxF l m), .int .i64 (remF l m)]) ∧ Gw w w' := by
  have HM := Lib.hid hM
  have hmS := Lib.hid hm
  have hl40 := hM.2.2
  clear hM hm
  go_enter Try.func50, Try.ntmps50
  go_wp2_with fail
  go_loopw [1, 6] (fun q i wr => ∃ (k : Nat) (c : Int), i = .int .i64 k ∧ q = .int .i64 c ∧ k ≤ l.length ∧ 0 ≤ c ∧ c ≤ m ∧ Hid (c < sumC (l.drop k)) ∧ Hid (idxF l m = idxF (l.drop k) c + k) ∧ Hid (remF l m = remF (l.drop k) c) ∧ Gw w wr) (fun q i _ => l.length - (intOf i).toNat)
  case atStart => exact ⟨0, m, by go_num, rfl, Nat.zero_le _, hm0, by omega, by simpa [Hid] using hmS.out, by simp [Hid], by simp [Hid], by (repeat (first | with_reducible exact Gw.refl _ | with_reducible assumption | ((with_reducible refine Gw.set ?_ ?_ _); rotate_left; (focus (first | (simp; done) | (simp; omega) | omega))) | with_reducible refine Gw.alloc ?_ _ | with_reducible refine Gw.drew ?_ | with_reducible refine Gw.drewN ?_ _ | (refine Gw.trans ?_ (by with_reducible assumption))))⟩
  case round =>
    obtain ⟨k, c, rfl, rfl, hk, hc0, hc1, hs, hi, hr, hgw⟩ := hrel
    have hlt : k < l.length := by
      rcases Nat.lt_or_ge k l.length with g | g
      · exact g
      · have := hs.out
        rw [List.drop_of_length_le g] at this
        simp only [sumC] at this
        omega
    obtain ⟨x, hx⟩ := get_of_lt hlt
    have hxm := HM.out.1 x (mem_of_get hx)
    obtain ⟨b, off, rfl, hb, c0, c1⟩ := (hA.gw hgw).get2 hx
    have Hx := Lib.hid hx
    clear hx
    by_cases hcx : c < x.1
    · have hf := idx_here Hx.out hcx
      have h1 : Hid ((k : Int) = (idxF l m : Int)) := by unfold Hid; rw [hi.out, hf.1]; simp
      have h2 : Hid (c = remF l m) := by unfold Hid; rw [hr.out, hf.2]
      clear hf
      go_wp2_with fail
      go_ret2
      exact ⟨ret_ii2 h1.out h2.out, by (repeat (first | with_reducible exact Gw.refl _ | with_reducible assumption | ((with_reducible refine Gw.set ?_ ?_ _); rotate_left; (focus (first | (simp; done) | (simp; omega) | omega))) | with_reducible refine Gw.alloc ?_ _ | with_reducible refine Gw.drew ?_ | with_reducible refine Gw.drewN ?_ _ | (refine Gw.trans ?_ (by with_reducible assumption))))⟩
    · have hf := idx_next Hx.out hcx
      have h1 : Hid (c - x.1 < sumC (l.drop (k + 1))) := by have := hs.out; rw [sumC_drop Hx.out] at this; unfold Hid; omega
      have h2 : Hid (idxF l m = idxF (l.drop (k + 1)) (c - x.1) + (k + 1)) := by unfold Hid; rw [hi.out, hf.1]; omega
      have h3 : Hid (remF l m = remF (l.drop (k + 1)) (c - x.1)) := by unfold Hid; rw [hr.out, hf.2]
      clear hf
      go_wp2_with fail
      go_roundw
      case rel => exact ⟨k + 1, c - x.1, by go_num, by go_num, by omega, by omega, by omega, h1, h2, h3, by (repeat (first | with_reducible exact Gw.refl _ | with_reducible assumption | ((with_reducible refine Gw.set ?_ ?_ _); rotate_left; (focus (first | (simp; done) | (simp; omega) | omega))) | with_reducible refine Gw.alloc ?_ _ | with_reducible refine Gw.drew ?_ | with_reducible refine Gw.drewN ?_ _ | (refine Gw.trans ?_ (by with_reducible assumption))))⟩
      case measure => simp [intOf]; omega
set_option maxHeartbeats 4000000 in
theorem i_MeasureAt (A : Option Addr) (cap : Nat) (l : List (Int × Int)) (m : Int) (w : World) (hM : MusicP l) (hm0 : 0 ≤ m) (hm1 : m ≤ 1000) (hm : m < sumC l) (hA : Rd w A l) :
    Calls Try.prog 47 #[.slice A l.length cap, .int .i64 m] w fun e w' => e = .returned (.tuple #[.int .i64 (idxF l m), .int .i64 (remF l m), .bool true]) ∧ Gw w w' := by
  have HM := Lib.hid hM
  have hmS := Lib.hid hm
  have hl40 := hM.2.2
  have hsb := sumC_bd l hM.1
  obtain ⟨q, hq⟩ : ∃ q, Hid (sumC l = q) := ⟨_, rfl⟩
  rw [hq.out] at hsb hm
  clear hM
  go_enter Try.func47, Try.ntmps47
  go_wp2_with fail
  refine (i_IsMusic _ _ l _ (by omega) hA).mono ?_
  rintro _ w1 (⟨hp, rfl, hb1⟩ | ⟨hp, rfl, hb1⟩)
  case inr => exact absurd HM.out hp
  clear hp
  go_wp2_with fail
  refine (i_countsOf _ _ l _ hl40 HM.out.1 (hA.gw hb1)).mono ?_
  rw [hq.out]
  rintro _ w2 ⟨rfl, hb2⟩
  have hG2 : Gw w w2 := Gw.trans hb1 hb2
  go_wp2_with fail
  refine (i_within _ _ _ _).mono ?_
  rintro _ w3 (⟨hp, rfl, rfl⟩ | ⟨hp, rfl, rfl⟩)
  case inr => exact absurd (show InR m 0 (q - 1) from ⟨by omega, by omega⟩) hp
  clear hp
  go_wp2_with fail
  go_loopw [1, 7] (fun q i wr => ∃ (k : Nat) (c : Int), i = .int .i64 k ∧ q = .int .i64 c ∧ k ≤ l.length ∧ 0 ≤ c ∧ c ≤ m ∧ Hid (c < sumC (l.drop k)) ∧ Hid (idxF l m = idxF (l.drop k) c + k) ∧ Hid (remF l m = remF (l.drop k) c) ∧ Gw w wr) (fun q i _ => l.length - (intOf i).toNat)
  case atStart => exact ⟨0, m, by go_num, rfl, Nat.zero_le _, hm0, by omega, by simpa [Hid] using hmS.out, by simp [Hid], by simp [Hid], by (repeat (first | with_reducible exact Gw.refl _ | with_reducible assumption | ((with_reducible refine Gw.set ?_ ?_ _); rotate_left; (focus (first | (simp; done) | (simp; omega) | omega))) | with_reducible refine Gw.alloc ?_ _ | with_reducible refine Gw.drew ?_ | with_reducible refine Gw.drewN ?_ _ | (refine Gw.trans ?_ (by with_reducible assumption))))⟩
  case round =>
    obtain ⟨k, c, rfl, rfl, hk, hc0, hc1, hs, hi, hr, hgw⟩ := hrel
    have hlt : k < l.length := by
      rcases Nat.lt_or_ge k l.length with g | g
      · exact g
      · have := hs.out
        rw [List.drop_of_length_le g] at this
        simp only [sumC] at this
        omega
    obtain ⟨x, hx⟩ := get_of_lt hlt
    have hxm := HM.out.1 x (mem_of_get hx)
    obtain ⟨b, off, rfl, hb, c0, c1⟩ := (hA.gw hgw).get2 hx
    have Hx := Lib.hid hx
    clear hx
    by_cases hcx : c < x.1
    · have hf := idx_here Hx.out hcx
      have h1 : Hid ((k : Int) = (idxF l m : Int)) := by unfold Hid; rw [hi.out, hf.1]; simp
      have h2 : Hid (c = remF l m) := by unfold Hid; rw [hr.out, hf.2]
      clear hf
      go_wp2_with fail
      go_ret3
      exact ⟨ret_iib2 h1.out h2.out, by (repeat (first | with_reducible exact Gw.refl _ | with_reducible assumption | ((with_reducible refine Gw.set ?_ ?_ _); rotate_left; (focus (first | (simp; done) | (simp; omega) | omega))) | with_reducible refine Gw.alloc ?_ _ | with_reducible refine Gw.drew ?_ | with_reducible refine Gw.drewN ?_ _ | (refine Gw.trans ?_ (by with_reducible assumption))))⟩
    · have hf := idx_next Hx.out hcx
      have h1 : Hid (c - x.1 < sumC (l.drop (k + 1))) := by have := hs.out; rw [sumC_drop Hx.out] at this; unfold Hid; omega
      have h2 : Hid (idxF l m = idxF (l.drop (k + 1)) (c - x.1) + (k + 1)) := by unfold Hid; rw [hi.out, hf.1]; omega
      have h3 : Hid (remF l m = remF (l.drop (k + 1)) (c - x.1)) := by unfold Hid; rw [hr.out, hf.2]
      clear hf
      go_wp2_with fail
      go_roundw
      case rel => exact ⟨k + 1, c - x.1, by go_num, by go_num, by omega, by omega, by omega, h1, h2, h3, by (repeat (first | with_reducible exact Gw.refl _ | with_reducible assumption | ((with_reducible refine Gw.set ?_ ?_ _); rotate_left; (focus (first | (simp; done) | (simp; omega) | omega))) | with_reducible refine Gw.alloc ?_ _ | with_reducible refine Gw.drew ?_ | with_reducible refine Gw.drewN ?_ _ | (refine Gw.trans ?_ (by with_reducible assumption))))⟩
      case measure => simp [intOf]; omega

theorem s_apGood (a b c d n a' b' c' d' n' : Int) (w : World) : Calls Try.prog 49 #[.agg #[.int .i64 a, .int .i64 b, .int .i64 c, .int .i64 d, .int .i64 n], .agg #[.int .i64 a', .int .i64 b', .int .i64 c', .int .i64 d', .int .i64 n']] w (Tells (MoveP a b c d n ∧ MoveP a' b' c' d' n' ∧ n = n') w) := by
  go_enter Try.func49, Try.ntmps49
  go_wp2_with (first | (go_at_call 56; refine (s_mvGood _ _ _ _ _ _).mono ?_; rintro e w' (⟨hp, rfl, hb⟩ | ⟨hp, rfl, hb⟩) <;> (have hc := hb.cells; have hf := hb.frozens; have hz := hb.size; (try simp at hz); (try have hz0 : w.heap.size < w'.heap.size := (by omega)); (try have hz1 : w.heap.size + 1 < w'.heap.size := (by omega)); (try have hz2 : w.heap.size + 2 < w'.heap.size := (by omega)); (try have hz3 : w.heap.size + 3 < w'.heap.size := (by omega)); (try have hz4 : w.heap.size + 4 < w'.heap.size := (by omega)); (try have hz5 : w.heap.size + 5 < w'.heap.size := (by omega)))))
  all_goals
    go_ret
    exact tells_of (by first | (simp; done) | (simp; omega) | omega) (by (repeat (first | with_reducible exact Gw.refl _ | with_reducible assumption | ((with_reducible refine Gw.set ?_ ?_ _); rotate_left; (focus (first | (simp; done) | (simp; omega) | omega))) | with_reducible refine Gw.alloc ?_ _ | with_reducible refine Gw.drew ?_ | with_reducible refine Gw.drewN ?_ _ | (refine Gw.trans ?_ (by with_reducible assumption)))))


theorem i_goTogether (a b c d n a' b' c' d' n' : Int) (w : World) : Calls Try.prog 45 #[.agg #[.int .i64 a, .int .i64 b, .int .i64 c, .int .i64 d, .int .i64 n], .agg #[.int .i64 a', .int .i64 b', .int .i64 c', .int .i64 d', .int .i64 n']] w (Tells (MoveP a b c d n ∧ MoveP a' b' c' d' n' ∧ n = n') w) := by
  go_enter Try.func45, Try.ntmps45
  go_wp2_with (first | (go_at_call 52; refine (i_IsMove _ _ _ _ _ _).mono ?_; rintro e w' (⟨hp, rfl, hb⟩ | ⟨hp, rfl, hb⟩) <;> (have hc := hb.cells; have hf := hb.frozens; have hz := hb.size; (try simp at hz); (try have hz0 : w.heap.size < w'.heap.size := (by omega)); (try have hz1 : w.heap.size + 1 < w'.heap.size := (by omega)); (try have hz2 : w.heap.size + 2 < w'.heap.size := (by omega)); (try have hz3 : w.heap.size + 3 < w'.heap.size := (by omega)); (try have hz4 : w.heap.size + 4 < w'.heap.size := (by omega)); (try have hz5 : w.heap.size + 5 < w'.heap.size := (by omega)))))
  all_goals
    go_ret
    exact tells_of (by first | (simp; done) | (simp; omega) | omega) (by (repeat (first | with_reducible exact Gw.refl _ | with_reducible assumption | ((with_reducible refine Gw.set ?_ ?_ _); rotate_left; (focus (first | (simp; done) | (simp; omega) | omega))) | with_reducible refine Gw.alloc ?_ _ | with_reducible refine Gw.drew ?_ | with_reducible refine Gw.drewN ?_ _ | (refine Gw.trans ?_ (by with_reducible assumption)))))




set_option maxHeartbeats 8000000 in
set_option maxRecDepth 100000 in
theorem s_MovesTooFast (A : Option Addr) (cl : Nat) (l : List MvT) (M : Option Addr) (cm : Nat) (mu : List (Int × Int)) (f lim : Int) (w : World) (hl : l.length ≤ 1048576) (hA : Rd w A l) (hlm : mu.length ≤ 1048576) (hM : Rd w M mu) :
    Calls Try.prog 9 #[.slice A l.length cl, .slice M mu.length cm, .int .i64 f, .int .i64 lim] w fun e w' => ∃ A c, e = .returned (.tuple #[.slice A (tooF l mu f lim).1.length c, .bool (tooF l mu f lim).2]) ∧ w'.ownsRow w.heap.size 3 1 (.slice A ((tooF l mu f lim).1).length c) ((tooF l mu f lim).1).length (flat ((tooF l mu f lim).1)) ∧ Gw w w' := by
  obtain ⟨i0, hi, hz0, hz1, hz2⟩ := info_parts infoInt
  go_enter Try.func9, Try.ntmps9
  go_wp2_with fail
  refine (s_l1In _ _ _ _).mono ?_
  rintro _ _ (⟨hp, rfl, rfl⟩ | ⟨hp, rfl, rfl⟩)
  case inr =>
    have hno := Lib.hid (tooF_bad (l := l) (mu := mu) (f := f) (lim := lim) (fun h => hp ⟨by have := h.1; omega, by have := h.1; omega⟩))
    go_wp2_with fail
    go_ret2
    exact ⟨none, 0, ret_lb (A := none) (c := 0) hno.out, by rw [hno.out]; exact World.ownsRow_nil _ _ _ _, by (repeat (first | with_reducible exact Gw.refl _ | with_reducible assumption | ((with_reducible refine Gw.set ?_ ?_ _); rotate_left; (focus (first | (simp; done) | (simp; omega) | omega))) | with_reducible refine Gw.alloc ?_ _ | with_reducible refine Gw.drew ?_ | with_reducible refine Gw.drewN ?_ _ | (refine Gw.trans ?_ (by with_reducible assumption))))⟩
  have hl1 : 1 ≤ l.length ∧ l.length ≤ 12 := by have := hp.1; have := hp.2; omega
  clear hp
  go_wp2_with fail
  refine (s_muGood _ _ _ _ hlm (hM.gw (by (repeat (first | with_reducible exact Gw.refl _ | with_reducible assumption | ((with_reducible refine Gw.set ?_ ?_ _); rotate_left; (focus (first | (simp; done) | (simp; omega) | omega))) | with_reducible refine Gw.alloc ?_ _ | with_reducible refine Gw.drew ?_ | with_reducible refine Gw.drewN ?_ _ | (refine Gw.trans ?_ (by with_reducible assumption))))))).mono ?_
  rintro _ w1 (⟨hp, rfl, hb1⟩ | ⟨hp, rfl, hb1⟩)
  case inr =>
    have hno := Lib.hid (tooF_bad (l := l) (mu := mu) (f := f) (lim := lim) (fun h => hp h.2.2.2.1))
    go_wp2_with fail
    go_ret2
    exact ⟨none, 0, ret_lb (A := none) (c := 0) hno.out, by rw [hno.out]; exact World.ownsRow_nil _ _ _ _, by (repeat (first | with_reducible exact Gw.refl _ | with_reducible assumption | ((with_reducible refine Gw.set ?_ ?_ _); rotate_left; (focus (first | (simp; done) | (simp; omega) | omega))) | with_reducible refine Gw.alloc ?_ _ | with_reducible refine Gw.drew ?_ | with_reducible refine Gw.drewN ?_ _ | (refine Gw.trans ?_ (by with_reducible assumption))))⟩
  have HM := Lib.hid hp
  have hqb := sumC_bd mu hp.1
  have hm40 := hp.2.2
  clear hp
  obtain ⟨q, Hq⟩ : ∃ q, Hid (sumC mu = q) := ⟨_, rfl⟩
  rw [Hq.out] at hqb
  go_wp2_with fail
  refine (s_paLimit _ _).mono ?_
  rintro _ _ (⟨hp, rfl, rfl⟩ | ⟨hp, rfl, rfl⟩)
  case inr =>
    have hno := Lib.hid (tooF_bad (l := l) (mu := mu) (f := f) (lim := lim) (fun h => hp h.2.1))
    go_wp2_with fail
    go_ret2
    exact ⟨none, 0, ret_lb (A := none) (c := 0) hno.out, by rw [hno.out]; exact World.ownsRow_nil _ _ _ _, by (repeat (first | with_reducible exact Gw.refl _ | with_reducible assumption | ((with_reducible refine Gw.set ?_ ?_ _); rotate_left; (focus (first | (simp; done) | (simp; omega) | omega))) | with_reducible refine Gw.alloc ?_ _ | with_reducible refine Gw.drew ?_ | with_reducible refine Gw.drewN ?_ _ | (refine Gw.trans ?_ (by with_reducible assumption))))⟩
  have hlim : 40 ≤ lim ∧ lim ≤ 5280 := hp
  clear hp
  by_cases hf : f < 0
  · have hno := Lib.hid (tooF_bad (l := l) (mu := mu) (f := f) (lim := lim) (fun h => by have := h.2.2.2.2.1; omega))
    go_wp2_with fail
    go_ret2
    exact ⟨none, 0, ret_lb (A := none) (c := 0) hno.out, by rw [hno.out]; exact World.ownsRow_nil _ _ _ _, by (repeat (first | with_reducible exact Gw.refl _ | with_reducible assumption | ((with_reducible refine Gw.set ?_ ?_ _); rotate_left; (focus (first | (simp; done) | (simp; omega) | omega))) | with_reducible refine Gw.alloc ?_ _ | with_reducible refine Gw.drew ?_ | with_reducible refine Gw.drewN ?_ _ | (refine Gw.trans ?_ (by with_reducible assumption))))⟩
  obtain ⟨y, hy⟩ := get_of_lt (l := l) (k := 0) (by omega)
  obtain ⟨y1, y2, y3, y4, y5⟩ := y
  have Hy := Lib.hid hy
  have Hn : Hid (n0 l = y5) := n0_of hy
  clear hy
  have hl0 : 0 < l.length := by omega
  go_wp2_with fail
  go_loopw [39] (fun i wr => ∃ k : Nat, i = .int .i64 k ∧ k ≤ l.length ∧ Hid (AllTo (fun x : MvT => MvP x ∧ x.2.2.2.2 = n0 l) l k) ∧ Gw w wr) (fun i _ => l.length - (intOf i).toNat)
  case atStart => exact ⟨0, by go_num, Nat.zero_le _, AllTo.zero, by (repeat (first | with_reducible exact Gw.refl _ | with_reducible assumption | ((with_reducible refine Gw.set ?_ ?_ _); rotate_left; (focus (first | (simp; done) | (simp; omega) | omega))) | with_reducible refine Gw.alloc ?_ _ | with_reducible refine Gw.drew ?_ | with_reducible refine Gw.drewN ?_ _ | (refine Gw.trans ?_ (by with_reducible assumption))))⟩
  case round =>
    obtain ⟨k, rfl, hk, hall, hgw⟩ := hrel
    by_cases hlt : k < l.length
    · obtain ⟨x, hx⟩ := get_of_lt hlt
      obtain ⟨x1, x2, x3, x4, x5⟩ := x
      obtain ⟨b, off, hae, hb, c0, c1, c2, c3, c4⟩ := (hA.gw hgw).get5 hx
      subst hae
      obtain ⟨b', off', hae, hb', d0, d1, d2, d3, d4⟩ := (hA.gw hgw).get5 Hy.out
      simp only [Option.some.injEq, Addr.mk.injEq, and_true] at hae
      obtain ⟨rfl, rfl⟩ := hae
      simp only [Nat.zero_mul, Nat.add_zero] at d0 d1 d2 d3 d4
      dsimp only at c0 c1 c2 c3 c4
      have Hx := Lib.hid hx
      clear hx
      have hbb : b < wr.heap.size + 1 := by omega
      by_cases hp : MoveP y1 y2 y3 y4 y5 ∧ MoveP x1 x2 x3 x4 x5 ∧ y5 = x5
      · have hn : Hid (AllTo (fun x : MvT => MvP x ∧ x.2.2.2.2 = n0 l) l (k + 1)) := AllTo.succ hall.out Hx.out ⟨hp.2.1, by rw [Hn.out]; exact hp.2.2.symm⟩
        have HP := Lib.hid hp
        clear hp
        go_wp2_with ((with_reducible refine wp_region_gw (by kernel_rfl) (by kernel_rfl) ?_); have hcq := @GwOf.cell; (repeat (go_big_quiet_step ((go_at_call 49; exact GwOf.callT HP.out (s_apGood _ _ _ _ _ _ _ _ _ _ _))))); refine wpQuiet_nil ?_; clear hcq; rintro w' ⟨⟨w', hb⟩, rfl⟩; (try dsimp only); have hc := hb.cells; have hf := hb.frozens; have hz := hb.size; (try simp at hz); (try have hz0 : w.heap.size < w'.heap.size := (by omega)); (try have hz1 : w.heap.size + 1 < w'.heap.size := (by omega)); (try have hz2 : w.heap.size + 2 < w'.heap.size := (by omega)); (try have hz3 : w.heap.size + 3 < w'.heap.size := (by omega)); (try have hz4 : w.heap.size + 4 < w'.heap.size := (by omega)); (try have hz5 : w.heap.size + 5 < w'.heap.size := (by omega)))
        go_roundw
        case rel => exact ⟨k + 1, by go_num, by omega, hn, by (repeat (first | with_reducible exact Gw.refl _ | with_reducible assumption | ((with_reducible refine Gw.set ?_ ?_ _); rotate_left; (focus (first | (simp; done) | (simp; omega) | omega))) | with_reducible refine Gw.alloc ?_ _ | with_reducible refine Gw.drew ?_ | with_reducible refine Gw.drewN ?_ _ | (refine Gw.trans ?_ (by with_reducible assumption))))⟩
        case measure => simp [intOf]; omega
      · have hno := Lib.hid (tooF_bad (l := l) (mu := mu) (f := f) (lim := lim) (fun h => by
          have h1 := h.2.2.1 _ (mem_of_get Hy.out)
          have h2 := h.2.2.1 _ (mem_of_get Hx.out)
          rw [Hn.out] at h2
          exact hp ⟨h1.1, h2.1, h2.2.symm⟩))
        have HP := Lib.hid hp
        clear hp
        go_wp2_with ((with_reducible refine wp_region_gw (by kernel_rfl) (by kernel_rfl) ?_); have hcq := @GwOf.cell; (repeat (go_big_quiet_step ((go_at_call 49; exact GwOf.callF HP.out (s_apGood _ _ _ _ _ _ _ _ _ _ _))))); refine wpQuiet_nil ?_; clear hcq; rintro w' ⟨⟨w', hb⟩, rfl⟩; (try dsimp only); have hc := hb.cells; have hf := hb.frozens; have hz := hb.size; (try simp at hz); (try have hz0 : w.heap.size < w'.heap.size := (by omega)); (try have hz1 : w.heap.size + 1 < w'.heap.size := (by omega)); (try have hz2 : w.heap.size + 2 < w'.heap.size := (by omega)); (try have hz3 : w.heap.size + 3 < w'.heap.size := (by omega)); (try have hz4 : w.heap.size + 4 < w'.heap.size := (by omega)); (try have hz5 : w.heap.size + 5 < w'.heap.size := (by omega)))
        go_ret2
        exact ⟨none, 0, ret_lb (A := none) (c := 0) hno.out, by rw [hno.out]; exact World.ownsRow_nil _ _ _ _, by (repeat (first | with_reducible exact Gw.refl _ | with_reducible assumption | ((with_reducible refine Gw.set ?_ ?_ _); rotate_left; (focus (first | (simp; done) | (simp; omega) | omega))) | with_reducible refine Gw.alloc ?_ _ | with_reducible refine Gw.drew ?_ | with_reducible refine Gw.drewN ?_ _ | (refine Gw.trans ?_ (by with_reducible assumption))))⟩
    · have HG : Hid (TogP l) := AllTo.all hall.out (by omega)
      have hy5 : 1 ≤ y5 ∧ y5 ≤ 64 := (HG.out _ (mem_of_get Hy.out)).1.2.2
      obtain ⟨nn, rfl⟩ : ∃ nn : Nat, y5 = nn := ⟨y5.toNat, by omega⟩
      obtain ⟨b', off', hae, hb', d0, d1, d2, d3, d4⟩ := (hA.gw hgw).get5 Hy.out
      simp only [Nat.zero_mul, Nat.add_zero] at d0 d1 d2 d3 d4
      subst hae
      clear hall
      by_cases hgt : q - (nn : Int) < f
      · have hd : decide (f > q - (nn : Int)) = true := by simpa using hgt
        have hno := Lib.hid (tooF_bad (l := l) (mu := mu) (f := f) (lim := lim) (fun h => by have h3 := h.2.2.2.2.2; rw [Hn.out, Hq.out] at h3; omega))
        go_wp2_with ((with_reducible refine wp_region_gw (by kernel_rfl) (by kernel_rfl) ?_); have hcq := @GwOf.cell; (repeat (go_big_quiet_step ((go_at_call 43; refine GwOf.call (v := .int .i64 q) ?_; rw [← Hq.out]; exact s_muCounts _ _ _ _ HM.out.2.2 HM.out.1 ((hM.gw hgw).gw (GwOf.gw _)))))); refine wpQuiet_nil ?_; clear hcq; rintro w' ⟨⟨w', hb⟩, rfl⟩; (try dsimp only); have hc := hb.cells; have hf := hb.frozens; have hz := hb.size; (try simp at hz); (try have hz0 : w.heap.size < w'.heap.size := (by omega)); (try have hz1 : w.heap.size + 1 < w'.heap.size := (by omega)); (try have hz2 : w.heap.size + 2 < w'.heap.size := (by omega)); (try have hz3 : w.heap.size + 3 < w'.heap.size := (by omega)); (try have hz4 : w.heap.size + 4 < w'.heap.size := (by omega)); (try have hz5 : w.heap.size + 5 < w'.heap.size := (by omega)))
        go_ret2
        exact ⟨none, 0, ret_lb (A := none) (c := 0) hno.out, by rw [hno.out]; exact World.ownsRow_nil _ _ _ _, by (repeat (first | with_reducible exact Gw.refl _ | with_reducible assumption | ((with_reducible refine Gw.set ?_ ?_ _); rotate_left; (focus (first | (simp; done) | (simp; omega) | omega))) | with_reducible refine Gw.alloc ?_ _ | with_reducible refine Gw.drew ?_ | with_reducible refine Gw.drewN ?_ _ | (refine Gw.trans ?_ (by with_reducible assumption))))⟩
      have hd : decide (f > q - (nn : Int)) = false := by simpa using hgt
      have HT : Hid (TooP l mu f lim) := ⟨hl1, hlim, HG.out, HM.out, by omega, by rw [Hn.out, Hq.out]; omega⟩
      go_wp2_with ((with_reducible refine wp_region_gw (by kernel_rfl) (by kernel_rfl) ?_); have hcq := @GwOf.cell; (repeat (go_big_quiet_step ((go_at_call 43; refine GwOf.call (v := .int .i64 q) ?_; rw [← Hq.out]; exact s_muCounts _ _ _ _ HM.out.2.2 HM.out.1 ((hM.gw hgw).gw (GwOf.gw _)))))); refine wpQuiet_nil ?_; clear hcq; rintro w' ⟨⟨w', hb⟩, rfl⟩; (try dsimp only); have hc := hb.cells; have hf := hb.frozens; have hz := hb.size; (try simp at hz); (try have hz0 : w.heap.size < w'.heap.size := (by omega)); (try have hz1 : w.heap.size + 1 < w'.heap.size := (by omega)); (try have hz2 : w.heap.size + 2 < w'.heap.size := (by omega)); (try have hz3 : w.heap.size + 3 < w'.heap.size := (by omega)); (try have hz4 : w.heap.size + 4 < w'.heap.size := (by omega)); (try have hz5 : w.heap.size + 5 < w'.heap.size := (by omega)))
      have hgwb : Gw w w' := by (repeat (first | with_reducible exact Gw.refl _ | with_reducible assumption | ((with_reducible refine Gw.set ?_ ?_ _); rotate_left; (focus (first | (simp; done) | (simp; omega) | omega))) | with_reducible refine Gw.alloc ?_ _ | with_reducible refine Gw.drew ?_ | with_reducible refine Gw.drewN ?_ _ | (refine Gw.trans ?_ (by with_reducible assumption))))
      clear d0 d1 d2 d3 d4 hc hf hz hd
      go_loopw [12, 13] (fun v i wr => ∃ (j : Nat) (t : Int), i = .int .i64 (f + (j : Int)) ∧ v = .int .i64 t ∧ j ≤ nn ∧ 0 ≤ t ∧ t ≤ 220 ∧ Hid (t = fstF mu f j) ∧ Gw w wr) (fun _ i _ => (f + (nn : Int) - intOf i).toNat)
      case atStart => exact ⟨0, 0, by go_num, rfl, Nat.zero_le _, by omega, by omega, rfl, by (repeat (first | with_reducible exact Gw.refl _ | with_reducible assumption | ((with_reducible refine Gw.set ?_ ?_ _); rotate_left; (focus (first | (simp; done) | (simp; omega) | omega))) | with_reducible refine Gw.alloc ?_ _ | with_reducible refine Gw.drew ?_ | with_reducible refine Gw.drewN ?_ _ | (refine Gw.trans ?_ (by with_reducible assumption))))⟩
      case round =>
        obtain ⟨j, t, rfl, rfl, hj, ht0, ht1, ht, hgw2⟩ := hrel
        obtain ⟨b', off', hae, hb', d0, d1, d2, d3, d4⟩ := (hA.gw hgw2).get5 Hy.out
        simp only [Nat.zero_mul, Nat.add_zero] at d0 d1 d2 d3 d4
        simp only [Option.some.injEq, Addr.mk.injEq, and_true] at hae
        obtain ⟨rfl, rfl⟩ := hae
        by_cases hjn : j < nn
        · obtain ⟨z, hz⟩ := get_of_lt (l := mu) (k := idxF mu (f + j)) (idxF_lt mu _ (by omega) (by rw [Hq.out]; omega))
          obtain ⟨z1, z2⟩ := z
          have hzm := HM.out.1 _ (mem_of_get hz)
          have hst := fstF_succ hz
          dsimp only at hzm hst
          have hil : idxF mu (f + j) < mu.length := (List.getElem?_eq_some_iff.1 hz).1
          have hn : Hid (max t z2 = fstF mu f (j + 1)) := by unfold Hid; rw [hst, ht.out]
          go_wp2_with fail
          refine (s_muAt _ _ mu _ _ HM.out (by omega) (by omega) (by rw [Hq.out]; omega) (hM.gw hgw2)).mono ?_
          rintro _ w8 ⟨rfl, hb8⟩
          have hg8 : Gw w w8 := Gw.trans hgw2 hb8
          obtain ⟨ix, hix⟩ : ∃ ix, Hid (idxF mu (f + j) = ix) := ⟨_, rfl⟩
          rw [hix.out] at hz hil ⊢
          obtain ⟨bm, offm, hae, hbm, e0, e1⟩ := (hM.gw hg8).get2 hz
          subst hae
          dsimp only at e0 e1
          clear hz hst
          go_wp2_with (first | (go_at_call 42; refine (s_l1Most _ _ _).mono ?_; rintro e w' ⟨rfl, rfl⟩))
          go_roundw
          case rel => exact ⟨j + 1, max t z2, by go_num, by go_num, by omega, by omega, by omega, hn, by (repeat (first | with_reducible exact Gw.refl _ | with_reducible assumption | ((with_reducible refine Gw.set ?_ ?_ _); rotate_left; (focus (first | (simp; done) | (simp; omega) | omega))) | with_reducible refine Gw.alloc ?_ _ | with_reducible refine Gw.drew ?_ | with_reducible refine Gw.drewN ?_ _ | (refine Gw.trans ?_ (by with_reducible assumption))))⟩
          case measure => simp [intOf]; omega
        · obtain rfl : j = nn := by omega
          have hv : Hid (tooF l mu f lim = (tooL l t lim l.length, true)) := by unfold Hid; rw [tooF_good HT.out, Hn.out, ht.out]; simp
          go_wp2_with fail
          go_loopw [16, 85] (fun o i wr => ∃ (k : Nat) (acc : List Int) (B : Option Addr) (c' : Nat), i = .int .i64 k ∧ k ≤ l.length ∧ o = .slice B acc.length c' ∧ acc.length ≤ k ∧
              wr.ownsRow w.heap.size 3 1 (.slice B acc.length c') acc.length (flat acc) ∧ Hid (acc = tooL l t lim k) ∧ Gw w wr) (fun _ i _ => l.length - (intOf i).toNat)
          case atStart => exact ⟨0, [], none, 0, by go_num, Nat.zero_le _, rfl, by simp, World.ownsRow_nil _ _ _ _, rfl, by (repeat (first | with_reducible exact Gw.refl _ | with_reducible assumption | ((with_reducible refine Gw.set ?_ ?_ _); rotate_left; (focus (first | (simp; done) | (simp; omega) | omega))) | with_reducible refine Gw.alloc ?_ _ | with_reducible refine Gw.drew ?_ | with_reducible refine Gw.drewN ?_ _ | (refine Gw.trans ?_ (by with_reducible assumption))))⟩
          case round =>
            obtain ⟨k, acc, B, c', rfl, hk, rfl, ha1, hown, hacc, hgw⟩ := hrel
            by_cases hlt : k < l.length
            · obtain ⟨x, hx⟩ := get_of_lt hlt
              have hxm := HG.out x (mem_of_get hx)
              obtain ⟨x1, x2, x3, x4, x5⟩ := x
              obtain ⟨b, off, hae, hb, c0, c1, c2, c3, c4⟩ := (hA.gw hgw).get5 hx
              simp only [Option.some.injEq, Addr.mk.injEq, and_true] at hae
              obtain ⟨rfl, rfl⟩ := hae
              dsimp only at c0 c1 c2 c3 c4
              have hxm1 : SpotP x1 x2 := hxm.1.1
              have hxm2 : SpotP x3 x4 := hxm.1.2.1
              have hxm3 : 1 ≤ x5 ∧ x5 ≤ 64 := hxm.1.2.2
              have hsq := sq_bd hxm1 hxm2
              clear hxm
              have hbb := Nat.lt_succ_of_lt hb
              by_cases hX : FastP x1 x2 x3 x4 x5 t lim
              · have hn : Hid (acc ++ [(k : Int)] = tooL l t lim (k + 1)) := by unfold Hid; rw [tooL_yes hx hX, hacc.out]
                have hd2 : decide (sq x1 x2 x3 x4 * t * t ≤ lim * lim * x5 * x5) = false := by simp; omega
                clear hx
                go_wp2_with (first | ((with_reducible refine wp_region_gw (by kernel_rfl) (by kernel_rfl) ?_); have hcq := @GwOf.cell; (repeat (go_big_quiet_step (first | (go_at_call 37; exact GwOf.call (s_stSquare _ _ _ _ _ hxm1 hxm2)) | (go_at_call 36; exact GwOf.callc (s_paFits _ _ _ _ _ (by omega) (by omega) (by omega) (by omega)))))); refine wpQuiet_nil ?_; clear hcq; rintro w' ⟨⟨w', hb⟩, rfl⟩; (try dsimp only); have hc := hb.cells; have hf := hb.frozens; have hz := hb.size; (try simp at hz); (try have hz0 : w.heap.size < w'.heap.size := (by omega)); (try have hz1 : w.heap.size + 1 < w'.heap.size := (by omega)); (try have hz2 : w.heap.size + 2 < w'.heap.size := (by omega)); (try have hz3 : w.heap.size + 3 < w'.heap.size := (by omega)); (try have hz4 : w.heap.size + 4 < w'.heap.size := (by omega)); (try have hz5 : w.heap.size + 5 < w'.heap.size := (by omega))) | (at_builtin; refine wpList_push (α := Int) rfl (.tmp 101) (.tmp 103) 35 rfl w.heap.size 3 i0 _ 8 Try.underlying35 hi hz0 hz1 hz2 rfl (by omega) acc B c' rfl _ ((k : Int)) rfl (w'.heap.size) (by simp) rfl (own_gw hown (by (repeat (first | with_reducible exact Gw.refl _ | with_reducible assumption | ((with_reducible refine Gw.set ?_ ?_ _); rotate_left; (focus (first | (simp; done) | (simp; omega) | omega))) | with_reducible refine Gw.alloc ?_ _ | with_reducible refine Gw.drew ?_ | with_reducible refine Gw.drewN ?_ _ | (refine Gw.trans ?_ (by with_reducible assumption)))))) (by omega) (by have := hgw.size; (try simp); omega) ?_; intro acc' A' c'' w9 hacc' hl1 hl2 hown' _ hgg))
                all_goals first | (exfalso; contradiction) | (exfalso; omega) | skip
                go_roundw
                case rel => exact ⟨k + 1, acc', A', c'', by go_num, by omega, rfl, by omega, hown', by unfold Hid; rw [hacc'.out]; exact hn.out, hgg w (by (repeat (first | with_reducible exact Gw.refl _ | with_reducible assumption | ((with_reducible refine Gw.set ?_ ?_ _); rotate_left; (focus (first | (simp; done) | (simp; omega) | omega))) | with_reducible refine Gw.alloc ?_ _ | with_reducible refine Gw.drew ?_ | with_reducible refine Gw.drewN ?_ _ | (refine Gw.trans ?_ (by with_reducible assumption))))) (Nat.le_refl _)⟩
                case measure => simp [intOf]; omega
              · have hn : Hid (acc = tooL l t lim (k + 1)) := by unfold Hid; rw [tooL_no hx hX, hacc.out]
                have hd2 : decide (sq x1 x2 x3 x4 * t * t ≤ lim * lim * x5 * x5) = true := by simp; omega
                clear hx
                go_wp2_with ((with_reducible refine wp_region_gw (by kernel_rfl) (by kernel_rfl) ?_); have hcq := @GwOf.cell; (repeat (go_big_quiet_step (first | (go_at_call 37; exact GwOf.call (s_stSquare _ _ _ _ _ hxm1 hxm2)) | (go_at_call 36; exact GwOf.callc (s_paFits _ _ _ _ _ (by omega) (by omega) (by omega) (by omega)))))); refine wpQuiet_nil ?_; clear hcq; rintro w' ⟨⟨w', hb⟩, rfl⟩; (try dsimp only); have hc := hb.cells; have hf := hb.frozens; have hz := hb.size; (try simp at hz); (try have hz0 : w.heap.size < w'.heap.size := (by omega)); (try have hz1 : w.heap.size + 1 < w'.heap.size := (by omega)); (try have hz2 : w.heap.size + 2 < w'.heap.size := (by omega)); (try have hz3 : w.heap.size + 3 < w'.heap.size := (by omega)); (try have hz4 : w.heap.size + 4 < w'.heap.size := (by omega)); (try have hz5 : w.heap.size + 5 < w'.heap.size := (by omega)))
                all_goals first | (exfalso; contradiction) | (exfalso; omega) | skip
                go_roundw
                case rel => exact ⟨k + 1, acc, B, c', by go_num, by omega, rfl, by omega, own_gw hown (by (repeat (first | with_reducible exact Gw.refl _ | with_reducible assumption | ((with_reducible refine Gw.set ?_ ?_ _); rotate_left; (focus (first | (simp; done) | (simp; omega) | omega))) | with_reducible refine Gw.alloc ?_ _ | with_reducible refine Gw.drew ?_ | with_reducible refine Gw.drewN ?_ _ | (refine Gw.trans ?_ (by with_reducible assumption))))), hn, by (repeat (first | with_reducible exact Gw.refl _ | with_reducible assumption | ((with_reducible refine Gw.set ?_ ?_ _); rotate_left; (focus (first | (simp; done) | (simp; omega) | omega))) | with_reducible refine Gw.alloc ?_ _ | with_reducible refine Gw.drew ?_ | with_reducible refine Gw.drewN ?_ _ | (refine Gw.trans ?_ (by with_reducible assumption))))⟩
                case measure => simp [intOf]; omega
            · have hfin : Hid (tooF l mu f lim = (acc, true)) := by unfold Hid; rw [hv.out, hacc.out]; congr 2; omega
              go_wp2_with fail
              go_ret2
              exact ⟨B, c', ret_lb hfin.out, by rw [hfin.out]; exact hown, by (repeat (first | with_reducible exact Gw.refl _ | with_reducible assumption | ((with_reducible refine Gw.set ?_ ?_ _); rotate_left; (focus (first | (simp; done) | (simp; omega) | omega))) | with_reducible refine Gw.alloc ?_ _ | with_reducible refine Gw.drew ?_ | with_reducible refine Gw.drewN ?_ _ | (refine Gw.trans ?_ (by with_reducible assumption))))⟩

set_option maxHeartbeats 8000000 in
set_option maxRecDepth 100000 in
theorem i_MovesTooFast (A : Option Addr) (cl : Nat) (l : List MvT) (M : Option Addr) (cm : Nat) (mu : List (Int × Int)) (f lim : Int) (w : World) (hl : l.length ≤ 1048576) (hA : Rd w A l) (hlm : mu.length ≤ 1048576) (hM : Rd w M mu) :
    Calls Try.prog 8 #[.slice A l.length cl, .slice M mu.length cm, .int .i64 f, .int .i64 lim] w fun e w' => ∃ A c, e = .returned (.tuple #[.slice A (tooF l mu f lim).1.length c, .bool (tooF l mu f lim).2]) ∧ w'.ownsRow w.heap.size 3 1 (.slice A ((tooF l mu f lim).1).length c) ((tooF l mu f lim).1).length (flat ((tooF l mu f lim).1)) ∧ Gw w w' := by
  obtain ⟨i0, hi, hz0, hz1, hz2⟩ := info_parts infoInt
  go_enter Try.func8, Try.ntmps8
  go_wp2_with fail
  refine (i_within _ _ _ _).mono ?_
  rintro _ _ (⟨hp, rfl, rfl⟩ | ⟨hp, rfl, rfl⟩)
  case inr =>
    have hno := Lib.hid (tooF_bad (l := l) (mu := mu) (f := f) (lim := lim) (fun h => hp ⟨by have := h.1; omega, by have := h.1; omega⟩))
    go_wp2_with fail
    go_ret2
    exact ⟨none, 0, ret_lb (A := none) (c := 0) hno.out, by rw [hno.out]; exact World.ownsRow_nil _ _ _ _, by (repeat (first | with_reducible exact Gw.refl _ | with_reducible assumption | ((with_reducible refine Gw.set ?_ ?_ _); rotate_left; (focus (first | (simp; done) | (simp; omega) | omega))) | with_reducible refine Gw.alloc ?_ _ | with_reducible refine Gw.drew ?_ | with_reducible refine Gw.drewN ?_ _ | (refine Gw.trans ?_ (by with_reducible assumption))))⟩
  have hl1 : 1 ≤ l.length ∧ l.length ≤ 12 := by have := hp.1; have := hp.2; omega
  clear hp
  go_wp2_with fail
  refine (i_isLimit _ _).mono ?_
  rintro _ _ (⟨hp, rfl, rfl⟩ | ⟨hp, rfl, rfl⟩)
  case inr =>
    have hno := Lib.hid (tooF_bad (l := l) (mu := mu) (f := f) (lim := lim) (fun h => hp h.2.1))
    go_wp2_with fail
    go_ret2
    exact ⟨none, 0, ret_lb (A := none) (c := 0) hno.out, by rw [hno.out]; exact World.ownsRow_nil _ _ _ _, by (repeat (first | with_reducible exact Gw.refl _ | with_reducible assumption | ((with_reducible refine Gw.set ?_ ?_ _); rotate_left; (focus (first | (simp; done) | (simp; omega) | omega))) | with_reducible refine Gw.alloc ?_ _ | with_reducible refine Gw.drew ?_ | with_reducible refine Gw.drewN ?_ _ | (refine Gw.trans ?_ (by with_reducible assumption))))⟩
  have hlim : 40 ≤ lim ∧ lim ≤ 5280 := hp
  clear hp
  obtain ⟨y, hy⟩ := get_of_lt (l := l) (k := 0) (by omega)
  obtain ⟨y1, y2, y3, y4, y5⟩ := y
  have Hy := Lib.hid hy
  have Hn : Hid (n0 l = y5) := n0_of hy
  clear hy
  have hl0 : 0 < l.length := by omega
  go_wp2_with fail
  go_loopw [31] (fun i wr => ∃ k : Nat, i = .int .i64 k ∧ k ≤ l.length ∧ Hid (AllTo (fun x : MvT => MvP x ∧ x.2.2.2.2 = n0 l) l k) ∧ Gw w wr) (fun i _ => l.length - (intOf i).toNat)
  case atStart => exact ⟨0, by go_num, Nat.zero_le _, AllTo.zero, by (repeat (first | with_reducible exact Gw.refl _ | with_reducible assumption | ((with_reducible refine Gw.set ?_ ?_ _); rotate_left; (focus (first | (simp; done) | (simp; omega) | omega))) | with_reducible refine Gw.alloc ?_ _ | with_reducible refine Gw.drew ?_ | with_reducible refine Gw.drewN ?_ _ | (refine Gw.trans ?_ (by with_reducible assumption))))⟩
  case round =>
    obtain ⟨k, rfl, hk, hall, hgw⟩ := hrel
    by_cases hlt : k < l.length
    · obtain ⟨x, hx⟩ := get_of_lt hlt
      obtain ⟨x1, x2, x3, x4, x5⟩ := x
      obtain ⟨b, off, hae, hb, c0, c1, c2, c3, c4⟩ := (hA.gw hgw).get5 hx
      subst hae
      obtain ⟨b', off', hae, hb', d0, d1, d2, d3, d4⟩ := (hA.gw hgw).get5 Hy.out
      simp only [Option.some.injEq, Addr.mk.injEq, and_true] at hae
      obtain ⟨rfl, rfl⟩ := hae
      simp only [Nat.zero_mul, Nat.add_zero] at d0 d1 d2 d3 d4
      dsimp only at c0 c1 c2 c3 c4
      have Hx := Lib.hid hx
      clear hx
      have hbb : b < wr.heap.size + 1 := by omega
      by_cases hp : MoveP y1 y2 y3 y4 y5 ∧ MoveP x1 x2 x3 x4 x5 ∧ y5 = x5
      · have hn : Hid (AllTo (fun x : MvT => MvP x ∧ x.2.2.2.2 = n0 l) l (k + 1)) := AllTo.succ hall.out Hx.out ⟨hp.2.1, by rw [Hn.out]; exact hp.2.2.symm⟩
        have HP := Lib.hid hp
        clear hp
        go_wp2_with ((with_reducible refine wp_region_gw (by kernel_rfl) (by kernel_rfl) ?_); have hcq := @GwOf.cell; (repeat (go_big_quiet_step ((go_at_call 45; exact GwOf.callT HP.out (i_goTogether _ _ _ _ _ _ _ _ _ _ _))))); refine wpQuiet_nil ?_; clear hcq; rintro w' ⟨⟨w', hb⟩, rfl⟩; (try dsimp only); have hc := hb.cells; have hf := hb.frozens; have hz := hb.size; (try simp at hz); (try have hz0 : w.heap.size < w'.heap.size := (by omega)); (try have hz1 : w.heap.size + 1 < w'.heap.size := (by omega)); (try have hz2 : w.heap.size + 2 < w'.heap.size := (by omega)); (try have hz3 : w.heap.size + 3 < w'.heap.size := (by omega)); (try have hz4 : w.heap.size + 4 < w'.heap.size := (by omega)); (try have hz5 : w.heap.size + 5 < w'.heap.size := (by omega)))
        go_roundw
        case rel => exact ⟨k + 1, by go_num, by omega, hn, by (repeat (first | with_reducible exact Gw.refl _ | with_reducible assumption | ((with_reducible refine Gw.set ?_ ?_ _); rotate_left; (focus (first | (simp; done) | (simp; omega) | omega))) | with_reducible refine Gw.alloc ?_ _ | with_reducible refine Gw.drew ?_ | with_reducible refine Gw.drewN ?_ _ | (refine Gw.trans ?_ (by with_reducible assumption))))⟩
        case measure => simp [intOf]; omega
      · have hno := Lib.hid (tooF_bad (l := l) (mu := mu) (f := f) (lim := lim) (fun h => by
          have h1 := h.2.2.1 _ (mem_of_get Hy.out)
          have h2 := h.2.2.1 _ (mem_of_get Hx.out)
          rw [Hn.out] at h2
          exact hp ⟨h1.1, h2.1, h2.2.symm⟩))
        have HP := Lib.hid hp
        clear hp
        go_wp2_with ((with_reducible refine wp_region_gw (by kernel_rfl) (by kernel_rfl) ?_); have hcq := @GwOf.cell; (repeat (go_big_quiet_step ((go_at_call 45; exact GwOf.callF HP.out (i_goTogether _ _ _ _ _ _ _ _ _ _ _))))); refine wpQuiet_nil ?_; clear hcq; rintro w' ⟨⟨w', hb⟩, rfl⟩; (try dsimp only); have hc := hb.cells; have hf := hb.frozens; have hz := hb.size; (try simp at hz); (try have hz0 : w.heap.size < w'.heap.size := (by omega)); (try have hz1 : w.heap.size + 1 < w'.heap.size := (by omega)); (try have hz2 : w.heap.size + 2 < w'.heap.size := (by omega)); (try have hz3 : w.heap.size + 3 < w'.heap.size := (by omega)); (try have hz4 : w.heap.size + 4 < w'.heap.size := (by omega)); (try have hz5 : w.heap.size + 5 < w'.heap.size := (by omega)))
        go_ret2
        exact ⟨none, 0, ret_lb (A := none) (c := 0) hno.out, by rw [hno.out]; exact World.ownsRow_nil _ _ _ _, by (repeat (first | with_reducible exact Gw.refl _ | with_reducible assumption | ((with_reducible refine Gw.set ?_ ?_ _); rotate_left; (focus (first | (simp; done) | (simp; omega) | omega))) | with_reducible refine Gw.alloc ?_ _ | with_reducible refine Gw.drew ?_ | with_reducible refine Gw.drewN ?_ _ | (refine Gw.trans ?_ (by with_reducible assumption))))⟩
    · have HG : Hid (TogP l) := AllTo.all hall.out (by omega)
      have hy5 : 1 ≤ y5 ∧ y5 ≤ 64 := (HG.out _ (mem_of_get Hy.out)).1.2.2
      obtain ⟨nn, rfl⟩ : ∃ nn : Nat, y5 = nn := ⟨y5.toNat, by omega⟩
      obtain ⟨b', off', hae, hb', d0, d1, d2, d3, d4⟩ := (hA.gw hgw).get5 Hy.out
      simp only [Nat.zero_mul, Nat.add_zero] at d0 d1 d2 d3 d4
      subst hae
      clear hall
      go_wp2_with fail
      refine (i_hasCounts _ _ mu f (nn : Int) _ hlm (hM.gw hgw) hy5).mono ?_
      rintro _ w1 (⟨hp, rfl, hb1⟩ | ⟨hp, rfl, hb1⟩)
      case inr =>
        have hno := Lib.hid (tooF_bad (l := l) (mu := mu) (f := f) (lim := lim) (fun h => by have h3 := h.2.2.2; rw [Hn.out] at h3; exact hp h3))
        clear hp
        go_wp2_with fail
        go_ret2
        exact ⟨none, 0, ret_lb (A := none) (c := 0) hno.out, by rw [hno.out]; exact World.ownsRow_nil _ _ _ _, by (repeat (first | with_reducible exact Gw.refl _ | with_reducible assumption | ((with_reducible refine Gw.set ?_ ?_ _); rotate_left; (focus (first | (simp; done) | (simp; omega) | omega))) | with_reducible refine Gw.alloc ?_ _ | with_reducible refine Gw.drew ?_ | with_reducible refine Gw.drewN ?_ _ | (refine Gw.trans ?_ (by with_reducible assumption))))⟩
      have HT : Hid (TooP l mu f lim) := ⟨hl1, hlim, HG.out, hp.1, hp.2.1, by rw [Hn.out]; exact hp.2.2⟩
      have HM := Lib.hid hp.1
      have hqb := sumC_bd mu hp.1.1
      have hm40 := hp.1.2.2
      obtain ⟨q, Hq⟩ : ∃ q, Hid (sumC mu = q) := ⟨_, rfl⟩
      rw [Hq.out] at hqb
      have hf0 := hp.2.1
      have hfq : f + (nn : Int) ≤ q := by have := hp.2.2; rw [Hq.out] at this; exact this
      clear hp
      have hgwb : Gw w w1 := by (repeat (first | with_reducible exact Gw.refl _ | with_reducible assumption | ((with_reducible refine Gw.set ?_ ?_ _); rotate_left; (focus (first | (simp; done) | (simp; omega) | omega))) | with_reducible refine Gw.alloc ?_ _ | with_reducible refine Gw.drew ?_ | with_reducible refine Gw.drewN ?_ _ | (refine Gw.trans ?_ (by with_reducible assumption))))
      clear d0 d1 d2 d3 d4
      go_wp2_with fail
      go_loopw [12, 13] (fun v i wr => ∃ (j : Nat) (t : Int), i = .int .i64 (f + (j : Int)) ∧ v = .int .i64 t ∧ j ≤ nn ∧ 0 ≤ t ∧ t ≤ 220 ∧ Hid (t = fstF mu f j) ∧ Gw w wr) (fun _ i _ => (f + (nn : Int) - intOf i).toNat)
      case atStart => exact ⟨0, 0, by go_num, rfl, Nat.zero_le _, by omega, by omega, rfl, by (repeat (first | with_reducible exact Gw.refl _ | with_reducible assumption | ((with_reducible refine Gw.set ?_ ?_ _); rotate_left; (focus (first | (simp; done) | (simp; omega) | omega))) | with_reducible refine Gw.alloc ?_ _ | with_reducible refine Gw.drew ?_ | with_reducible refine Gw.drewN ?_ _ | (refine Gw.trans ?_ (by with_reducible assumption))))⟩
      case round =>
        obtain ⟨j, t, rfl, rfl, hj, ht0, ht1, ht, hgw2⟩ := hrel
        obtain ⟨b', off', hae, hb', d0, d1, d2, d3, d4⟩ := (hA.gw hgw2).get5 Hy.out
        simp only [Nat.zero_mul, Nat.add_zero] at d0 d1 d2 d3 d4
        simp only [Option.some.injEq, Addr.mk.injEq, and_true] at hae
        obtain ⟨rfl, rfl⟩ := hae
        by_cases hjn : j < nn
        · obtain ⟨z, hz⟩ := get_of_lt (l := mu) (k := idxF mu (f + j)) (idxF_lt mu _ (by omega) (by rw [Hq.out]; omega))
          obtain ⟨z1, z2⟩ := z
          have hzm := HM.out.1 _ (mem_of_get hz)
          have hst := fstF_succ hz
          dsimp only at hzm hst
          have hil : idxF mu (f + j) < mu.length := (List.getElem?_eq_some_iff.1 hz).1
          have hn : Hid (max t z2 = fstF mu f (j + 1)) := by unfold Hid; rw [hst, ht.out]
          go_wp2_with fail
          refine (i_MeasureAt _ _ mu _ _ HM.out (by omega) (by omega) (by rw [Hq.out]; omega) (hM.gw hgw2)).mono ?_
          rintro _ w8 ⟨rfl, hb8⟩
          have hg8 : Gw w w8 := Gw.trans hgw2 hb8
          obtain ⟨ix, hix⟩ : ∃ ix, Hid (idxF mu (f + j) = ix) := ⟨_, rfl⟩
          rw [hix.out] at hz hil ⊢
          obtain ⟨bm, offm, hae, hbm, e0, e1⟩ := (hM.gw hg8).get2 hz
          subst hae
          dsimp only at e0 e1
          clear hz hst
          go_wp2_with fail
          go_roundw
          case rel => exact ⟨j + 1, max t z2, by go_num, by go_num, by omega, by omega, by omega, hn, by (repeat (first | with_reducible exact Gw.refl _ | with_reducible assumption | ((with_reducible refine Gw.set ?_ ?_ _); rotate_left; (focus (first | (simp; done) | (simp; omega) | omega))) | with_reducible refine Gw.alloc ?_ _ | with_reducible refine Gw.drew ?_ | with_reducible refine Gw.drewN ?_ _ | (refine Gw.trans ?_ (by with_reducible assumption))))⟩
          case measure => simp [intOf]; omega
        · obtain rfl : j = nn := by omega
          have hv : Hid (tooF l mu f lim = (tooL l t lim l.length, true)) := by unfold Hid; rw [tooF_good HT.out, Hn.out, ht.out]; simp
          go_wp2_with fail
          go_loopw [17, 78] (fun o i wr => ∃ (k : Nat) (acc : List Int) (B : Option Addr) (c' : Nat), i = .int .i64 k ∧ k ≤ l.length ∧ o = .slice B acc.length c' ∧ acc.length ≤ k ∧
              wr.ownsRow w.heap.size 3 1 (.slice B acc.length c') acc.length (flat acc) ∧ Hid (acc = tooL l t lim k) ∧ Gw w wr) (fun _ i _ => l.length - (intOf i).toNat)
          case atStart => exact ⟨0, [], some ⟨wr.heap.size, 0, none⟩, 0, by go_num, Nat.zero_le _, rfl, by simp, World.ownsRow_made wr #[] 0 hgw2.size (by simp [maxLen]) (by simp), rfl, by (repeat (first | with_reducible exact Gw.refl _ | with_reducible assumption | ((with_reducible refine Gw.set ?_ ?_ _); rotate_left; (focus (first | (simp; done) | (simp; omega) | omega))) | with_reducible refine Gw.alloc ?_ _ | with_reducible refine Gw.drew ?_ | with_reducible refine Gw.drewN ?_ _ | (refine Gw.trans ?_ (by with_reducible assumption))))⟩
          case round =>
            obtain ⟨k, acc, B, c', rfl, hk, rfl, ha1, hown, hacc, hgw⟩ := hrel
            by_cases hlt : k < l.length
            · obtain ⟨x, hx⟩ := get_of_lt hlt
              have hxm := HG.out x (mem_of_get hx)
              obtain ⟨x1, x2, x3, x4, x5⟩ := x
              obtain ⟨b, off, hae, hb, c0, c1, c2, c3, c4⟩ := (hA.gw hgw).get5 hx
              simp only [Option.some.injEq, Addr.mk.injEq, and_true] at hae
              obtain ⟨rfl, rfl⟩ := hae
              dsimp only at c0 c1 c2 c3 c4
              have hxm1 : SpotP x1 x2 := hxm.1.1
              have hxm2 : SpotP x3 x4 := hxm.1.2.1
              have hxm3 : 1 ≤ x5 ∧ x5 ≤ 64 := hxm.1.2.2
              have hsq := sq_bd hxm1 hxm2
              clear hxm
              have hbb := Nat.lt_succ_of_lt hb
              by_cases hX : FastP x1 x2 x3 x4 x5 t lim
              · have hn : Hid (acc ++ [(k : Int)] = tooL l t lim (k + 1)) := by unfold Hid; rw [tooL_yes hx hX, hacc.out]
                have hd2 : decide (sq x1 x2 x3 x4 * t * t ≤ lim * lim * x5 * x5) = false := by simp; omega
                clear hx
                go_wp2_with (first | (go_at_call 31; refine (i_tooFast _ _ _ _ _ _ _ _ hxm1 hxm2 (by omega) (by omega) (by omega)).mono ?_; rintro e w' (⟨hp, rfl, hb⟩ | ⟨hp, rfl, hb⟩) <;> (have hc := hb.cells; have hf := hb.frozens; have hz := hb.size; (try simp at hz); (try have hz0 : w.heap.size < w'.heap.size := (by omega)); (try have hz1 : w.heap.size + 1 < w'.heap.size := (by omega)); (try have hz2 : w.heap.size + 2 < w'.heap.size := (by omega)); (try have hz3 : w.heap.size + 3 < w'.heap.size := (by omega)); (try have hz4 : w.heap.size + 4 < w'.heap.size := (by omega)); (try have hz5 : w.heap.size + 5 < w'.heap.size := (by omega)))) | (at_builtin; refine wpList_push (α := Int) rfl (.tmp 87) (.tmp 89) 35 rfl w.heap.size 3 i0 _ 8 Try.underlying35 hi hz0 hz1 hz2 rfl (by omega) acc B c' rfl _ ((k : Int)) rfl (w'.heap.size) (by simp) rfl (own_gw hown (by (repeat (first | with_reducible exact Gw.refl _ | with_reducible assumption | ((with_reducible refine Gw.set ?_ ?_ _); rotate_left; (focus (first | (simp; done) | (simp; omega) | omega))) | with_reducible refine Gw.alloc ?_ _ | with_reducible refine Gw.drew ?_ | with_reducible refine Gw.drewN ?_ _ | (refine Gw.trans ?_ (by with_reducible assumption)))))) (by omega) (by have := hgw.size; (try simp); omega) ?_; intro acc' A' c'' w9 hacc' hl1 hl2 hown' _ hgg))
                all_goals first | (exfalso; contradiction) | (exfalso; omega) | skip
                go_roundw
                case rel => exact ⟨k + 1, acc', A', c'', by go_num, by omega, rfl, by omega, hown', by unfold Hid; rw [hacc'.out]; exact hn.out, hgg w (by (repeat (first | with_reducible exact Gw.refl _ | with_reducible assumption | ((with_reducible refine Gw.set ?_ ?_ _); rotate_left; (focus (first | (simp; done) | (simp; omega) | omega))) | with_reducible refine Gw.alloc ?_ _ | with_reducible refine Gw.drew ?_ | with_reducible refine Gw.drewN ?_ _ | (refine Gw.trans ?_ (by with_reducible assumption))))) (Nat.le_refl _)⟩
                case measure => simp [intOf]; omega
              · have hn : Hid (acc = tooL l t lim (k + 1)) := by unfold Hid; rw [tooL_no hx hX, hacc.out]
                have hd2 : decide (sq x1 x2 x3 x4 * t * t ≤ lim * lim * x5 * x5) = true := by simp; omega
                clear hx
                go_wp2_with (go_at_call 31; refine (i_tooFast _ _ _ _ _ _ _ _ hxm1 hxm2 (by omega) (by omega) (by omega)).mono ?_; rintro e w' (⟨hp, rfl, hb⟩ | ⟨hp, rfl, hb⟩) <;> (have hc := hb.cells; have hf := hb.frozens; have hz := hb.size; (try simp at hz); (try have hz0 : w.heap.size < w'.heap.size := (by omega)); (try have hz1 : w.heap.size + 1 < w'.heap.size := (by omega)); (try have hz2 : w.heap.size + 2 < w'.heap.size := (by omega)); (try have hz3 : w.heap.size + 3 < w'.heap.size := (by omega)); (try have hz4 : w.heap.size + 4 < w'.heap.size := (by omega)); (try have hz5 : w.heap.size + 5 < w'.heap.size := (by omega))))
                all_goals first | (exfalso; contradiction) | (exfalso; omega) | skip
                go_roundw
                case rel => exact ⟨k + 1, acc, B, c', by go_num, by omega, rfl, by omega, own_gw hown (by (repeat (first | with_reducible exact Gw.refl _ | with_reducible assumption | ((with_reducible refine Gw.set ?_ ?_ _); rotate_left; (focus (first | (simp; done) | (simp; omega) | omega))) | with_reducible refine Gw.alloc ?_ _ | with_reducible refine Gw.drew ?_ | with_reducible refine Gw.drewN ?_ _ | (refine Gw.trans ?_ (by with_reducible assumption))))), hn, by (repeat (first | with_reducible exact Gw.refl _ | with_reducible assumption | ((with_reducible refine Gw.set ?_ ?_ _); rotate_left; (focus (first | (simp; done) | (simp; omega) | omega))) | with_reducible refine Gw.alloc ?_ _ | with_reducible refine Gw.drew ?_ | with_reducible refine Gw.drewN ?_ _ | (refine Gw.trans ?_ (by with_reducible assumption))))⟩
                case measure => simp [intOf]; omega
            · have hfin : Hid (tooF l mu f lim = (acc, true)) := by unfold Hid; rw [hv.out, hacc.out]; congr 2; omega
              go_wp2_with fail
              go_ret2
              exact ⟨B, c', ret_lb hfin.out, by rw [hfin.out]; exact hown, by (repeat (first | with_reducible exact Gw.refl _ | with_reducible assumption | ((with_reducible refine Gw.set ?_ ?_ _); rotate_left; (focus (first | (simp; done) | (simp; omega) | omega))) | with_reducible refine Gw.alloc ?_ _ | with_reducible refine Gw.drew ?_ | with_reducible refine Gw.drewN ?_ _ | (refine Gw.trans ?_ (by with_reducible assumption))))⟩

end Go.Proofs.Ythokcddabgojgaa
