/-
  The performers that an editor touched: the reference's way.
-/
import Derived.Test.YtbfchmpigedkbaaTchP
import Derived.Test.YtbfchmpigedkbaaAppend
import Derived.Test.YtbfchmpigedkbaaTyInt
import Derived.Test.YtbfchmpigedkbaaTell
namespace Go.Proofs.Ytbfchmpigedkbaa
open Go.RowKit

theorem own_nil_cap {w : World} {base n c : Nat} {e : TypeId} {size : Nat} {xs : List Value} (h : w.ownsRow base e size (.slice none n c) n xs) : n = 0 ∧ c = 0 := by
  rcases h.2 with ⟨hv, _⟩ | ⟨g, cap, cur, hv, _⟩
  · simp only [Value.slice.injEq, true_and] at hv; exact hv
  · cases hv
theorem own_cap {w : World} {base n c : Nat} {A : Option Addr} {e : TypeId} {size : Nat} {xs : List Value} (h : w.ownsRow base e size (.slice A n c) n xs) : n ≤ c ∧ c ≤ 9223372036854775807 := by
  obtain ⟨_, _, hv, hc, hc2, _⟩ := own_form h
  simp only [Value.slice.injEq, true_and] at hv
  obtain ⟨rfl, rfl⟩ := hv
  unfold maxLen at hc2
  omega

set_option maxHeartbeats 4000000 in
set_option maxRecDepth 100000 in
theorem s_l1Put (A : Option Addr) (c base : Nat) (acc : List Int) (x : Int) (w : World) (hl : acc.length ≤ 1000000) (hown : w.ownsRow base 3 1 (.slice A acc.length c) acc.length (flat acc)) (hb : base ≤ w.heap.size) :
    Calls Try.prog 26 #[.slice A acc.length c, .int .i64 x] w fun e w' => ∃ A c, e = .returned (.slice A (putL acc x).length c) ∧ w'.ownsRow base 3 1 (.slice A (putL acc x).length c) (putL acc x).length (flat (putL acc x)) ∧ Gw w w' := by
  obtain ⟨i0, hi, hz0, hz1, hz2⟩ := info_parts infoInt
  obtain ⟨hc1, hc2⟩ := own_cap hown
  have HA : Hid (Rd w A acc) := own_rd (α := Int) hown
  have hA2 : A = none ∧ acc.length = 0 ∧ c = 0 ∨ ∃ g, A = some ⟨g, 0, none⟩ := by
    obtain ⟨A', c', hv, _, _, _, hor⟩ := own_form hown
    simp only [Value.slice.injEq, true_and] at hv
    obtain ⟨rfl, rfl⟩ := hv
    rcases hor with rfl | ⟨g, rfl, _⟩
    · exact .inl ⟨rfl, own_nil_cap hown⟩
    · exact .inr ⟨g, rfl⟩
  have Hown := Lib.hid hown
  clear hown
  go_enter Try.func26, Try.ntmps26
  go_wp2_with fail
  go_loop [5] (fun i => ∃ k : Nat, i = .int .i64 k ∧ k ≤ acc.length ∧ Hid (∀ j y, j < k → acc[j]? = some y → y < x)) (fun i => acc.length - (intOf i).toNat)
  case atStart => exact ⟨0, by go_num, Nat.zero_le _, fun j y h => absurd h (by omega)⟩
  case round =>
    obtain ⟨k, rfl, hk, hbef⟩ := hrel
    have htk : Hid ((acc.take k).length = k) := by unfold Hid; rw [List.length_take]; omega
    have hdk : Hid ((acc.drop k).length = acc.length - k) := by unfold Hid; rw [List.length_drop]
    have Hrt := Lib.hid (HA.out.take k)
    have bk0 : (0 : Int) ≤ (k : Int) := by omega
    have bk1 : (k : Int) ≤ (c : Int) := by omega
    have bk2 : (k : Int) ≤ (acc.length : Int) := by omega
    have bk3 : (acc.length : Int) ≤ (c : Int) := by omega
    by_cases hlt : k < acc.length
    · obtain ⟨y, hy⟩ := get_of_lt hlt
      obtain ⟨b, off, hAe, hbb, c0⟩ := HA.out.get1 hy
      have Hy := Lib.hid hy
      clear hy
      rcases hA2 with ⟨_, h0, _⟩ | ⟨g, rfl⟩
      · omega
      simp only [Option.some.injEq, Addr.mk.injEq, and_true] at hAe
      obtain ⟨rfl, rfl⟩ := hAe
      rw [Nat.zero_add] at c0
      by_cases hyx : y < x
      · have hbef2 : Hid (∀ j z, j < k + 1 → acc[j]? = some z → z < x) := by
          intro j z hj hz
          by_cases e : j = k
          · subst e; rw [Hy.out] at hz; cases hz; exact hyx
          · exact hbef.out j z (by omega) hz
        clear hbef
        go_wp2_with fail
        go_round
        case rel => exact ⟨k + 1, by go_num, by omega, hbef2⟩
        case measure => simp [intOf]; omega
      · have hput := Lib.hid (putL_at (l := acc) (n := x) (k := k) hbef.out (fun z hz => by rw [Hy.out] at hz; cases hz; exact hyx) hk)
        by_cases hex : y = x
        · have hsame : Hid (putL acc x = acc) := by unfold Hid; rw [hput.out, if_pos (by rw [Hy.out, hex])]
          have e1 : (y == x) = true := by simp [hex]
          clear hbef hput hex
          go_wp2_with fail
          go_ret
          exact ⟨some ⟨g, 0, none⟩, c, by rw [hsame.out]; rfl, by rw [hsame.out]; exact Hown.out, Gw.refl _⟩
        · have e1 : (y == x) = false := by simp [hex]
          have hput : Hid (putL acc x = acc.take k ++ [x] ++ acc.drop k) := by unfold Hid; rw [hput.out, if_neg (by rw [Hy.out]; simp [hex])]
          have hck : ¬(c = k) := by omega
          have Hrd : Hid (Rd w (some ⟨g, 0 + k * 1, none⟩) (acc.drop k)) := HA.out.drop k
          rw [Nat.zero_add, Nat.mul_one] at Hrd
          clear hbef hex
          (go_wp2_with (first | (at_builtin; refine wpList_catAny (α := Int) rfl (.tmp 34) (.tmp 37) 24 rfl w.heap.size 3 i0 _ 8 Try.underlying24 hi hz0 hz1 hz2 rfl (by omega) [] (some ⟨w.heap.size, 0, none⟩) 0 rfl (acc.take (k)) (k) htk.out _ _ rfl (Hrt.out.gw (by (repeat (first | with_reducible exact Gw.refl _ | with_reducible assumption | ((with_reducible refine Gw.set ?_ ?_ _); rotate_left; (focus (first | (simp; done) | (simp; omega) | omega))) | with_reducible refine Gw.alloc ?_ _ | with_reducible refine Gw.drew ?_ | with_reducible refine Gw.drewN ?_ _ | (refine Gw.trans ?_ (by with_reducible assumption)))))) (World.ownsRow_made w #[] 0 (Nat.le_refl _) (by simp [maxLen]) (by simp)) (by simp) (by omega) (by simp) ?_; intro acc1 A1 c1 w1 hacc1 hl1 hown1 hgg1; have hG1 : Gw w w1 := hgg1 w (by (repeat (first | with_reducible exact Gw.refl _ | with_reducible assumption | ((with_reducible refine Gw.set ?_ ?_ _); rotate_left; (focus (first | (simp; done) | (simp; omega) | omega))) | with_reducible refine Gw.alloc ?_ _ | with_reducible refine Gw.drew ?_ | with_reducible refine Gw.drewN ?_ _ | (refine Gw.trans ?_ (by with_reducible assumption))))) (Nat.le_refl _); clear hgg1; have hsz1 := hG1.size; simp only [List.length_nil, Nat.zero_add] at hl1; have hl1a : acc1.length ≤ 1000000 := (by omega); have Hl1 := Lib.hid hl1; clear hl1) | (at_builtin; refine wpList_push (α := Int) rfl (.tmp 39) (.tmp 41) 24 rfl w.heap.size 3 i0 _ 8 Try.underlying24 hi hz0 hz1 hz2 rfl (by omega) acc1 A1 c1 rfl w1 x rfl _ rfl rfl hown1 (by omega) (by omega) ?_; intro acc2 A2 c2 w2 hacc2 hl2 hl3 hown2 _ hgg2; have hG2 : Gw w w2 := hgg2 w hG1 (Nat.le_refl _); clear hgg2; have hsz2 := hG2.size) | (at_builtin; refine wpList_catAny (α := Int) rfl (.tmp 43) (.tmp 46) 24 rfl w.heap.size 3 i0 _ 8 Try.underlying24 hi hz0 hz1 hz2 rfl (by omega) acc2 A2 c2 rfl (acc.drop (k)) _ ?_ _ _ rfl (Hrd.out.gw hG2) hown2 (by omega) ?_ (by omega) ?_; (have := hdk.out; omega); (have := hdk.out; omega); intro acc3 A3 c3 w3 hacc3 hl4 hown3 hgg3; have Hl4 := Lib.hid hl4; clear hl4; have hG3 : Gw w w3 := hgg3 w hG2 (Nat.le_refl _); clear hgg3)); go_ret; have he : Hid (acc3 = putL acc x) := (by unfold Hid; rw [hacc3.out, hacc2.out, hacc1.out, hput.out, List.nil_append]); have hll := own_lower hown3 hb; rw [he.out] at hll; exact ⟨A3, c3, (by rw [← he.out, Hl4.out] <;> rfl), hll, hG3⟩)
    · obtain rfl : k = acc.length := by omega
      have hput : Hid (putL acc x = acc.take acc.length ++ [x] ++ acc.drop acc.length) := by
        have := putL_at (l := acc) (n := x) (k := acc.length) hbef.out (fun z hz => by simp at hz) hk
        rw [if_neg (by simp)] at this
        exact this
      have Hrn : Hid (∀ X u, Rd u X (acc.drop acc.length)) := fun X u => by rw [List.drop_length]; exact Rd.nil
      clear hbef
      rcases hA2 with ⟨rfl, h0, rfl⟩ | ⟨g, rfl⟩
      · obtain rfl : acc = [] := List.eq_nil_of_length_eq_zero h0
        clear Hrt htk hdk h0 hlt hk bk0 bk1 bk2 bk3
        go_wp2_with (first | (at_builtin; refine wpList_catAny (α := Int) rfl (.tmp 34) (.tmp 37) 24 rfl w.heap.size 3 i0 _ 8 Try.underlying24 hi hz0 hz1 hz2 rfl (by omega) [] (some ⟨w.heap.size, 0, none⟩) 0 rfl [] 0 rfl none 0 rfl Rd.nil (World.ownsRow_made w #[] 0 (Nat.le_refl _) (by simp [maxLen]) (by simp)) (by simp) (by omega) (by simp) ?_; intro acc1 A1 c1 w1 hacc1 hl1 hown1 hgg1; have hG1 : Gw w w1 := hgg1 w (by (repeat (first | with_reducible exact Gw.refl _ | with_reducible assumption | ((with_reducible refine Gw.set ?_ ?_ _); rotate_left; (focus (first | (simp; done) | (simp; omega) | omega))) | with_reducible refine Gw.alloc ?_ _ | with_reducible refine Gw.drew ?_ | with_reducible refine Gw.drewN ?_ _ | (refine Gw.trans ?_ (by with_reducible assumption))))) (Nat.le_refl _); clear hgg1; have hsz1 := hG1.size; simp only [List.length_nil, Nat.zero_add] at hl1; have hl1a : acc1.length ≤ 1000000 := (by omega); have Hl1 := Lib.hid hl1; clear hl1) | (at_builtin; refine wpList_push (α := Int) rfl (.tmp 39) (.tmp 41) 24 rfl w.heap.size 3 i0 _ 8 Try.underlying24 hi hz0 hz1 hz2 rfl (by omega) acc1 A1 c1 rfl w1 x rfl _ rfl rfl hown1 (by omega) (by omega) ?_; intro acc2 A2 c2 w2 hacc2 hl2 hl3 hown2 _ hgg2; have hG2 : Gw w w2 := hgg2 w hG1 (Nat.le_refl _); clear hgg2; have hsz2 := hG2.size) | (at_builtin; refine wpList_catAny (α := Int) rfl (.tmp 43) (.tmp 46) 24 rfl w.heap.size 3 i0 _ 8 Try.underlying24 hi hz0 hz1 hz2 rfl (by omega) acc2 A2 c2 rfl [] 0 rfl _ _ rfl Rd.nil hown2 (by omega) (by omega) (by omega) ?_; intro acc3 A3 c3 w3 hacc3 hl4 hown3 hgg3; have Hl4 := Lib.hid hl4; clear hl4; have hG3 : Gw w w3 := hgg3 w hG2 (Nat.le_refl _); clear hgg3))
        go_ret
        have he : Hid (acc3 = putL [] x) := by unfold Hid; rw [hacc3.out, hacc2.out, hacc1.out]; rfl
        have hll := own_lower hown3 hb
        rw [he.out] at hll
        exact ⟨A3, c3, (by rw [← he.out, Hl4.out] <;> rfl), hll, hG3⟩
      · by_cases hck : c = acc.length
        · (go_wp2_with (first | (at_builtin; refine wpList_catAny (α := Int) rfl (.tmp 34) (.tmp 37) 24 rfl w.heap.size 3 i0 _ 8 Try.underlying24 hi hz0 hz1 hz2 rfl (by omega) [] (some ⟨w.heap.size, 0, none⟩) 0 rfl (acc.take (acc.length)) (acc.length) htk.out _ _ rfl (Hrt.out.gw (by (repeat (first | with_reducible exact Gw.refl _ | with_reducible assumption | ((with_reducible refine Gw.set ?_ ?_ _); rotate_left; (focus (first | (simp; done) | (simp; omega) | omega))) | with_reducible refine Gw.alloc ?_ _ | with_reducible refine Gw.drew ?_ | with_reducible refine Gw.drewN ?_ _ | (refine Gw.trans ?_ (by with_reducible assumption)))))) (World.ownsRow_made w #[] 0 (Nat.le_refl _) (by simp [maxLen]) (by simp)) (by simp) (by omega) (by simp) ?_; intro acc1 A1 c1 w1 hacc1 hl1 hown1 hgg1; have hG1 : Gw w w1 := hgg1 w (by (repeat (first | with_reducible exact Gw.refl _ | with_reducible assumption | ((with_reducible refine Gw.set ?_ ?_ _); rotate_left; (focus (first | (simp; done) | (simp; omega) | omega))) | with_reducible refine Gw.alloc ?_ _ | with_reducible refine Gw.drew ?_ | with_reducible refine Gw.drewN ?_ _ | (refine Gw.trans ?_ (by with_reducible assumption))))) (Nat.le_refl _); clear hgg1; have hsz1 := hG1.size; simp only [List.length_nil, Nat.zero_add] at hl1; have hl1a : acc1.length ≤ 1000000 := (by omega); have Hl1 := Lib.hid hl1; clear hl1) | (at_builtin; refine wpList_push (α := Int) rfl (.tmp 39) (.tmp 41) 24 rfl w.heap.size 3 i0 _ 8 Try.underlying24 hi hz0 hz1 hz2 rfl (by omega) acc1 A1 c1 rfl w1 x rfl _ rfl rfl hown1 (by omega) (by omega) ?_; intro acc2 A2 c2 w2 hacc2 hl2 hl3 hown2 _ hgg2; have hG2 : Gw w w2 := hgg2 w hG1 (Nat.le_refl _); clear hgg2; have hsz2 := hG2.size) | (at_builtin; refine wpList_catAny (α := Int) rfl (.tmp 43) (.tmp 46) 24 rfl w.heap.size 3 i0 _ 8 Try.underlying24 hi hz0 hz1 hz2 rfl (by omega) acc2 A2 c2 rfl (acc.drop (acc.length)) _ ?_ _ _ rfl (Hrn.out _ _) hown2 (by omega) ?_ (by omega) ?_; (have := hdk.out; omega); (have := hdk.out; omega); intro acc3 A3 c3 w3 hacc3 hl4 hown3 hgg3; have Hl4 := Lib.hid hl4; clear hl4; have hG3 : Gw w w3 := hgg3 w hG2 (Nat.le_refl _); clear hgg3)); go_ret; have he : Hid (acc3 = putL acc x) := (by unfold Hid; rw [hacc3.out, hacc2.out, hacc1.out, hput.out, List.nil_append]); have hll := own_lower hown3 hb; rw [he.out] at hll; exact ⟨A3, c3, (by rw [← he.out, Hl4.out] <;> rfl), hll, hG3⟩)
        · (go_wp2_with (first | (at_builtin; refine wpList_catAny (α := Int) rfl (.tmp 34) (.tmp 37) 24 rfl w.heap.size 3 i0 _ 8 Try.underlying24 hi hz0 hz1 hz2 rfl (by omega) [] (some ⟨w.heap.size, 0, none⟩) 0 rfl (acc.take (acc.length)) (acc.length) htk.out _ _ rfl (Hrt.out.gw (by (repeat (first | with_reducible exact Gw.refl _ | with_reducible assumption | ((with_reducible refine Gw.set ?_ ?_ _); rotate_left; (focus (first | (simp; done) | (simp; omega) | omega))) | with_reducible refine Gw.alloc ?_ _ | with_reducible refine Gw.drew ?_ | with_reducible refine Gw.drewN ?_ _ | (refine Gw.trans ?_ (by with_reducible assumption)))))) (World.ownsRow_made w #[] 0 (Nat.le_refl _) (by simp [maxLen]) (by simp)) (by simp) (by omega) (by simp) ?_; intro acc1 A1 c1 w1 hacc1 hl1 hown1 hgg1; have hG1 : Gw w w1 := hgg1 w (by (repeat (first | with_reducible exact Gw.refl _ | with_reducible assumption | ((with_reducible refine Gw.set ?_ ?_ _); rotate_left; (focus (first | (simp; done) | (simp; omega) | omega))) | with_reducible refine Gw.alloc ?_ _ | with_reducible refine Gw.drew ?_ | with_reducible refine Gw.drewN ?_ _ | (refine Gw.trans ?_ (by with_reducible assumption))))) (Nat.le_refl _); clear hgg1; have hsz1 := hG1.size; simp only [List.length_nil, Nat.zero_add] at hl1; have hl1a : acc1.length ≤ 1000000 := (by omega); have Hl1 := Lib.hid hl1; clear hl1) | (at_builtin; refine wpList_push (α := Int) rfl (.tmp 39) (.tmp 41) 24 rfl w.heap.size 3 i0 _ 8 Try.underlying24 hi hz0 hz1 hz2 rfl (by omega) acc1 A1 c1 rfl w1 x rfl _ rfl rfl hown1 (by omega) (by omega) ?_; intro acc2 A2 c2 w2 hacc2 hl2 hl3 hown2 _ hgg2; have hG2 : Gw w w2 := hgg2 w hG1 (Nat.le_refl _); clear hgg2; have hsz2 := hG2.size) | (at_builtin; refine wpList_catAny (α := Int) rfl (.tmp 43) (.tmp 46) 24 rfl w.heap.size 3 i0 _ 8 Try.underlying24 hi hz0 hz1 hz2 rfl (by omega) acc2 A2 c2 rfl (acc.drop (acc.length)) _ ?_ _ _ rfl (Hrn.out _ _) hown2 (by omega) ?_ (by omega) ?_; (have := hdk.out; omega); (have := hdk.out; omega); intro acc3 A3 c3 w3 hacc3 hl4 hown3 hgg3; have Hl4 := Lib.hid hl4; clear hl4; have hG3 : Gw w w3 := hgg3 w hG2 (Nat.le_refl _); clear hgg3)); go_ret; have he : Hid (acc3 = putL acc x) := (by unfold Hid; rw [hacc3.out, hacc2.out, hacc1.out, hput.out, List.nil_append]); have hll := own_lower hown3 hb; rw [he.out] at hll; exact ⟨A3, c3, (by rw [← he.out, Hl4.out] <;> rfl), hll, hG3⟩)
end Go.Proofs.Ytbfchmpigedkbaa
