/-
  Edits of an editor, the last touch.
-/
import Derived.Test.YtdcdgghobjhbhaaEdit
namespace Go.Proofs.Ytdcdgghobjhbhaa
open Go.RowKit

theorem ret_lb {α : Type} {k : List α × Bool} {A : Option Addr} {c : Nat} {l : List α} {b : Bool} (h : k = (l, b)) : Ending.returned (.tuple #[.slice A l.length c, .bool b]) = .returned (.tuple #[.slice A k.1.length c, .bool k.2]) := by rw [h]

open Classical in
noncomputable def editsOf (l : List (Int × Int × Int × Int × Int × Int)) (n : Int) : List (Int × Int × Int × Int × Int × Int) × Bool := if EditsP l ∧ InR n 1 9 then (l.filter (fun x => x.1 == n), true) else ([], false)
theorem editsOf_len (l : List (Int × Int × Int × Int × Int × Int)) (n : Int) : (editsOf l n).1.length ≤ 1048576 := by
  unfold editsOf
  split
  · rename_i h
    have := List.length_filter_le (fun x : (Int × Int × Int × Int × Int × Int) => x.1 == n) l
    have := h.1.2
    dsimp only
    omega
  · simp

set_option maxHeartbeats 2000000 in
theorem s_EditsOf (A : Option Addr) (c : Nat) (l : List (Int × Int × Int × Int × Int × Int)) (n : Int) (w : World) (hl : l.length ≤ 1048576) (hA : Rd w A l) :
    Calls Try.prog 29 #[.slice A l.length c, .int .i64 n] w fun e w' => ∃ A c, e = .returned (.tuple #[.slice A (editsOf l n).1.length c, .bool (editsOf l n).2]) ∧
      w'.ownsRow w.heap.size 29 6 (.slice A (editsOf l n).1.length c) (editsOf l n).1.length (flat (editsOf l n).1) ∧ Gw w w' := by
  obtain ⟨i0, hi, hz0, hz1, hz2⟩ := info_parts infoEdit
  go_enter Try.func29, Try.ntmps29
  go_wp2_with (first | (go_at_call 49; refine (s_edAll _ _ _ _ hl hA).mono ?_; rintro e w' (⟨hp, rfl, hb⟩ | ⟨hp, rfl, hb⟩) <;> (have hc := hb.cells; have hf := hb.frozens; have hz := hb.size; (try simp at hz); (try have hz0 : w.heap.size < w'.heap.size := (by omega)); (try have hz1 : w.heap.size + 1 < w'.heap.size := (by omega)); (try have hz2 : w.heap.size + 2 < w'.heap.size := (by omega)); (try have hz3 : w.heap.size + 3 < w'.heap.size := (by omega)); (try have hz4 : w.heap.size + 4 < w'.heap.size := (by omega)); (try have hz5 : w.heap.size + 5 < w'.heap.size := (by omega)))) | (go_at_call 60; refine (s_edEditor _ _).mono ?_; rintro e w' (⟨hp, rfl, rfl⟩ | ⟨hp, rfl, rfl⟩)))
  all_goals first
    | (go_ret2
       have hno : editsOf l n = ([], false) := by unfold editsOf; rw [if_neg (fun h => by first | exact absurd h.1 ‹_› | (have := h.2; omega))]
       exact ⟨none, 0, ret_lb (A := none) (c := 0) hno, by rw [hno]; exact World.ownsRow_nil _ _ _ _, by (repeat (first | with_reducible exact Gw.refl _ | with_reducible assumption | ((with_reducible refine Gw.set ?_ ?_ _); rotate_left; (focus (first | (simp; done) | (simp; omega) | omega))) | with_reducible refine Gw.alloc ?_ _ | with_reducible refine Gw.drew ?_ | with_reducible refine Gw.drewN ?_ _ | (refine Gw.trans ?_ (by with_reducible assumption))))⟩)
    | skip
  have hv : Hid (editsOf l n = (l.filter (fun x => x.1 == n), true)) := by unfold Hid editsOf; rw [if_pos (by first | exact ⟨‹_›, ‹_›⟩ | exact ⟨by assumption, by omega⟩)]
  obtain ⟨W, hW⟩ : ∃ W : World, Hid (W = w') := ⟨w', rfl⟩
  have HGW : Gw w w' := by (repeat (first | with_reducible exact Gw.refl _ | with_reducible assumption | ((with_reducible refine Gw.set ?_ ?_ _); rotate_left; (focus (first | (simp; done) | (simp; omega) | omega))) | with_reducible refine Gw.alloc ?_ _ | with_reducible refine Gw.drew ?_ | with_reducible refine Gw.drewN ?_ _ | (refine Gw.trans ?_ (by with_reducible assumption))))
  go_loopw [6, 19] (fun o i wr => ∃ (k : Nat) (acc : List (Int × Int × Int × Int × Int × Int)) (A : Option Addr) (c : Nat), i = .int .i64 k ∧ k ≤ l.length ∧ o = .slice A acc.length c ∧ acc.length ≤ k ∧
      wr.ownsRow w.heap.size 29 6 (.slice A acc.length c) acc.length (flat acc) ∧ Hid (acc = (l.take k).filter (fun x => x.1 == n)) ∧ Gw w wr) (fun _ i _ => l.length - (intOf i).toNat)
  case atStart => first
    | exact ⟨0, [], none, 0, by go_num, Nat.zero_le _, rfl, by simp, World.ownsRow_nil _ _ _ _, rfl, by (repeat (first | with_reducible exact Gw.refl _ | with_reducible assumption | ((with_reducible refine Gw.set ?_ ?_ _); rotate_left; (focus (first | (simp; done) | (simp; omega) | omega))) | with_reducible refine Gw.alloc ?_ _ | with_reducible refine Gw.drew ?_ | with_reducible refine Gw.drewN ?_ _ | (refine Gw.trans ?_ (by with_reducible assumption))))⟩
    | exact ⟨0, [], some ⟨w'.heap.size, 0, none⟩, 0, by go_num, Nat.zero_le _, rfl, by simp, World.ownsRow_made w' #[] 0 HGW.size (by simp [maxLen]) (by simp), rfl, by (repeat (first | with_reducible exact Gw.refl _ | with_reducible assumption | ((with_reducible refine Gw.set ?_ ?_ _); rotate_left; (focus (first | (simp; done) | (simp; omega) | omega))) | with_reducible refine Gw.alloc ?_ _ | with_reducible refine Gw.drew ?_ | with_reducible refine Gw.drewN ?_ _ | (refine Gw.trans ?_ (by with_reducible assumption))))⟩
  case round =>
    obtain ⟨k, acc, B, c', rfl, hk, rfl, ha1, hown, hacc, hgw⟩ := hrel
    by_cases hlt : k < l.length
    · obtain ⟨x, hx⟩ := get_of_lt hlt
      obtain ⟨b, off, rfl, hb, c0, c1, c2, c3, c4, c5⟩ := (hA.gw hgw).get6 hx
      by_cases hC : x.1 = n
      · have hb0 : (x.1 == n) = true := by simp [hC]
        have hn : Hid (acc ++ [x] = (l.take (k + 1)).filter (fun x => x.1 == n)) := by
          unfold Hid; rw [take_succ_of hx, List.filter_append, ← hacc.out, List.filter_cons, if_pos hb0]; rfl
        clear hacc hx
        have HC : Hid (x.1 = n) := hC
        clear hC
        go_wp2_with (at_builtin; refine wpList_push (α := (Int × Int × Int × Int × Int × Int)) rfl (.tmp 27) (.tmp 29) 36 rfl w.heap.size 29 i0 _ 48 Try.underlying36 hi hz0 hz1 hz2 rfl (by omega) acc B c' rfl _ x rfl (wr.heap.size + 1) (by simp) rfl (hown.alloc _) (by omega) (by have := hgw.size; simp; omega) ?_; intro acc' A' c'' w2 hacc' hl1 hl2 hown' _ hgg)
        go_roundw
        case rel => exact ⟨k + 1, acc', A', c'', by go_num, by omega, rfl, by omega, hown', by unfold Hid; rw [hacc'.out]; exact hn.out, hgg w (by (repeat (first | with_reducible exact Gw.refl _ | with_reducible assumption | ((with_reducible refine Gw.set ?_ ?_ _); rotate_left; (focus (first | (simp; done) | (simp; omega) | omega))) | with_reducible refine Gw.alloc ?_ _ | with_reducible refine Gw.drew ?_ | with_reducible refine Gw.drewN ?_ _ | (refine Gw.trans ?_ (by with_reducible assumption))))) (Nat.le_refl _)⟩
        case measure => simp [intOf]; omega
      · have hb0 : (x.1 == n) = false := by simp [hC]
        have hn : Hid (acc = (l.take (k + 1)).filter (fun x => x.1 == n)) := by
          unfold Hid; rw [take_succ_of hx, List.filter_append, ← hacc.out, List.filter_cons, if_neg (by simp [hb0])]; simp
        clear hacc hx
        have HC : Hid (¬(x.1 = n)) := hC
        clear hC
        go_wp2_with fail
        go_roundw
        case rel => exact ⟨k + 1, acc, B, c', by go_num, by omega, rfl, by omega, hown.alloc _, hn, by (repeat (first | with_reducible exact Gw.refl _ | with_reducible assumption | ((with_reducible refine Gw.set ?_ ?_ _); rotate_left; (focus (first | (simp; done) | (simp; omega) | omega))) | with_reducible refine Gw.alloc ?_ _ | with_reducible refine Gw.drew ?_ | with_reducible refine Gw.drewN ?_ _ | (refine Gw.trans ?_ (by with_reducible assumption))))⟩
        case measure => simp [intOf]; omega
    · have hfin : Hid (editsOf l n = (acc, true)) := by
        unfold Hid; rw [hv.out, hacc.out, List.take_of_length_le (by omega)]
      go_wp2_with fail
      go_ret2
      exact ⟨B, c', ret_lb hfin.out, by rw [hfin.out]; exact hown, by (repeat (first | with_reducible exact Gw.refl _ | with_reducible assumption | ((with_reducible refine Gw.set ?_ ?_ _); rotate_left; (focus (first | (simp; done) | (simp; omega) | omega))) | with_reducible refine Gw.alloc ?_ _ | with_reducible refine Gw.drew ?_ | with_reducible refine Gw.drewN ?_ _ | (refine Gw.trans ?_ (by with_reducible assumption))))⟩

set_option maxHeartbeats 2000000 in
theorem i_EditsOf (A : Option Addr) (c : Nat) (l : List (Int × Int × Int × Int × Int × Int)) (n : Int) (w : World) (hl : l.length ≤ 1048576) (hA : Rd w A l) :
    Calls Try.prog 30 #[.slice A l.length c, .int .i64 n] w fun e w' => ∃ A c, e = .returned (.tuple #[.slice A (editsOf l n).1.length c, .bool (editsOf l n).2]) ∧
      w'.ownsRow w.heap.size 29 6 (.slice A (editsOf l n).1.length c) (editsOf l n).1.length (flat (editsOf l n).1) ∧ Gw w w' := by
  obtain ⟨i0, hi, hz0, hz1, hz2⟩ := info_parts infoEdit
  go_enter Try.func30, Try.ntmps30
  go_wp2_with (first | (go_at_call 52; refine (i_areEdits _ _ _ _ hl hA).mono ?_; rintro e w' (⟨hp, rfl, hb⟩ | ⟨hp, rfl, hb⟩) <;> (have hc := hb.cells; have hf := hb.frozens; have hz := hb.size; (try simp at hz); (try have hz0 : w.heap.size < w'.heap.size := (by omega)); (try have hz1 : w.heap.size + 1 < w'.heap.size := (by omega)); (try have hz2 : w.heap.size + 2 < w'.heap.size := (by omega)); (try have hz3 : w.heap.size + 3 < w'.heap.size := (by omega)); (try have hz4 : w.heap.size + 4 < w'.heap.size := (by omega)); (try have hz5 : w.heap.size + 5 < w'.heap.size := (by omega)))) | (go_at_call 46; refine (i_isEditor _ _).mono ?_; rintro e w' (⟨hp, rfl, rfl⟩ | ⟨hp, rfl, rfl⟩)))
  all_goals first
    | (go_ret2
       have hno : editsOf l n = ([], false) := by unfold editsOf; rw [if_neg (fun h => by first | exact absurd h.1 ‹_› | (have := h.2; omega))]
       exact ⟨none, 0, ret_lb (A := none) (c := 0) hno, by rw [hno]; exact World.ownsRow_nil _ _ _ _, by (repeat (first | with_reducible exact Gw.refl _ | with_reducible assumption | ((with_reducible refine Gw.set ?_ ?_ _); rotate_left; (focus (first | (simp; done) | (simp; omega) | omega))) | with_reducible refine Gw.alloc ?_ _ | with_reducible refine Gw.drew ?_ | with_reducible refine Gw.drewN ?_ _ | (refine Gw.trans ?_ (by with_reducible assumption))))⟩)
    | skip
  have hv : Hid (editsOf l n = (l.filter (fun x => x.1 == n), true)) := by unfold Hid editsOf; rw [if_pos (by first | exact ⟨‹_›, ‹_›⟩ | exact ⟨by assumption, by omega⟩)]
  obtain ⟨W, hW⟩ : ∃ W : World, Hid (W = w') := ⟨w', rfl⟩
  have HGW : Gw w w' := by (repeat (first | with_reducible exact Gw.refl _ | with_reducible assumption | ((with_reducible refine Gw.set ?_ ?_ _); rotate_left; (focus (first | (simp; done) | (simp; omega) | omega))) | with_reducible refine Gw.alloc ?_ _ | with_reducible refine Gw.drew ?_ | with_reducible refine Gw.drewN ?_ _ | (refine Gw.trans ?_ (by with_reducible assumption))))
  go_loopw [6, 20] (fun o i wr => ∃ (k : Nat) (acc : List (Int × Int × Int × Int × Int × Int)) (A : Option Addr) (c : Nat), i = .int .i64 k ∧ k ≤ l.length ∧ o = .slice A acc.length c ∧ acc.length ≤ k ∧
      wr.ownsRow w.heap.size 29 6 (.slice A acc.length c) acc.length (flat acc) ∧ Hid (acc = (l.take k).filter (fun x => x.1 == n)) ∧ Gw w wr) (fun _ i _ => l.length - (intOf i).toNat)
  case atStart => first
    | exact ⟨0, [], none, 0, by go_num, Nat.zero_le _, rfl, by simp, World.ownsRow_nil _ _ _ _, rfl, by (repeat (first | with_reducible exact Gw.refl _ | with_reducible assumption | ((with_reducible refine Gw.set ?_ ?_ _); rotate_left; (focus (first | (simp; done) | (simp; omega) | omega))) | with_reducible refine Gw.alloc ?_ _ | with_reducible refine Gw.drew ?_ | with_reducible refine Gw.drewN ?_ _ | (refine Gw.trans ?_ (by with_reducible assumption))))⟩
    | exact ⟨0, [], some ⟨w'.heap.size, 0, none⟩, 0, by go_num, Nat.zero_le _, rfl, by simp, World.ownsRow_made w' #[] 0 HGW.size (by simp [maxLen]) (by simp), rfl, by (repeat (first | with_reducible exact Gw.refl _ | with_reducible assumption | ((with_reducible refine Gw.set ?_ ?_ _); rotate_left; (focus (first | (simp; done) | (simp; omega) | omega))) | with_reducible refine Gw.alloc ?_ _ | with_reducible refine Gw.drew ?_ | with_reducible refine Gw.drewN ?_ _ | (refine Gw.trans ?_ (by with_reducible assumption))))⟩
  case round =>
    obtain ⟨k, acc, B, c', rfl, hk, rfl, ha1, hown, hacc, hgw⟩ := hrel
    by_cases hlt : k < l.length
    · obtain ⟨x, hx⟩ := get_of_lt hlt
      obtain ⟨b, off, rfl, hb, c0, c1, c2, c3, c4, c5⟩ := (hA.gw hgw).get6 hx
      by_cases hC : x.1 = n
      · have hb0 : (x.1 == n) = true := by simp [hC]
        have hn : Hid (acc ++ [x] = (l.take (k + 1)).filter (fun x => x.1 == n)) := by
          unfold Hid; rw [take_succ_of hx, List.filter_append, ← hacc.out, List.filter_cons, if_pos hb0]; rfl
        clear hacc hx
        have HC : Hid (x.1 = n) := hC
        clear hC
        go_wp2_with (at_builtin; refine wpList_push (α := (Int × Int × Int × Int × Int × Int)) rfl (.tmp 28) (.tmp 30) 36 rfl w.heap.size 29 i0 _ 48 Try.underlying36 hi hz0 hz1 hz2 rfl (by omega) acc B c' rfl _ x rfl (wr.heap.size + 1) (by simp) rfl (hown.alloc _) (by omega) (by have := hgw.size; simp; omega) ?_; intro acc' A' c'' w2 hacc' hl1 hl2 hown' _ hgg)
        go_roundw
        case rel => exact ⟨k + 1, acc', A', c'', by go_num, by omega, rfl, by omega, hown', by unfold Hid; rw [hacc'.out]; exact hn.out, hgg w (by (repeat (first | with_reducible exact Gw.refl _ | with_reducible assumption | ((with_reducible refine Gw.set ?_ ?_ _); rotate_left; (focus (first | (simp; done) | (simp; omega) | omega))) | with_reducible refine Gw.alloc ?_ _ | with_reducible refine Gw.drew ?_ | with_reducible refine Gw.drewN ?_ _ | (refine Gw.trans ?_ (by with_reducible assumption))))) (Nat.le_refl _)⟩
        case measure => simp [intOf]; omega
      · have hb0 : (x.1 == n) = false := by simp [hC]
        have hn : Hid (acc = (l.take (k + 1)).filter (fun x => x.1 == n)) := by
          unfold Hid; rw [take_succ_of hx, List.filter_append, ← hacc.out, List.filter_cons, if_neg (by simp [hb0])]; simp
        clear hacc hx
        have HC : Hid (¬(x.1 = n)) := hC
        clear hC
        go_wp2_with fail
        go_roundw
        case rel => exact ⟨k + 1, acc, B, c', by go_num, by omega, rfl, by omega, hown.alloc _, hn, by (repeat (first | with_reducible exact Gw.refl _ | with_reducible assumption | ((with_reducible refine Gw.set ?_ ?_ _); rotate_left; (focus (first | (simp; done) | (simp; omega) | omega))) | with_reducible refine Gw.alloc ?_ _ | with_reducible refine Gw.drew ?_ | with_reducible refine Gw.drewN ?_ _ | (refine Gw.trans ?_ (by with_reducible assumption))))⟩
        case measure => simp [intOf]; omega
    · have hfin : Hid (editsOf l n = (acc, true)) := by
        unfold Hid; rw [hv.out, hacc.out, List.take_of_length_le (by omega)]
      go_wp2_with fail
      go_ret2
      exact ⟨B, c', ret_lb hfin.out, by rw [hfin.out]; exact hown, by (repeat (first | with_reducible exact Gw.refl _ | with_reducible assumption | ((with_reducible refine Gw.set ?_ ?_ _); rotate_left; (focus (first | (simp; done) | (simp; omega) | omega))) | with_reducible refine Gw.alloc ?_ _ | with_reducible refine Gw.drew ?_ | with_reducible refine Gw.drewN ?_ _ | (refine Gw.trans ?_ (by with_reducible assumption))))⟩

end Go.Proofs.Ytdcdgghobjhbhaa
