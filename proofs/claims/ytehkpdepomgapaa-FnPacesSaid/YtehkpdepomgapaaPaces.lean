/-
  Paces at a limit.
-/
import Derived.Test.YtehkpdepomgapaaScal
import Derived.Test.YtehkpdepomgapaaList
import Derived.Test.YtehkpdepomgapaaTyPace
namespace Go.Proofs.Ytehkpdepomgapaa
open Go.RowKit

def pacesUp (L : Int) : Nat → Int → List (Int × Int)
  | 0, _ => []
  | f + 1, s => if L % s = 0 ∧ PaceP s (L / s) then (s, L / s) :: pacesUp L f (s + 1) else pacesUp L f (s + 1)
def pacesAt (L s : Int) : List (Int × Int) × Bool := if (40 ≤ L ∧ L ≤ 5280) ∧ 1 ≤ s ∧ s ≤ 24 then (pacesUp L (25 - s).toNat s, true) else ([], false)
theorem pacesUp_len (L : Int) (f : Nat) (s : Int) : (pacesUp L f s).length ≤ f := by
  induction f generalizing s with
  | zero => simp [pacesUp]
  | succ f ih =>
    have := ih (s + 1)
    unfold pacesUp
    split
    · simp only [List.length_cons]; omega
    · omega
theorem pacesAt_len (L s : Int) : (pacesAt L s).1.length ≤ 1048576 := by
  unfold pacesAt
  split
  · have := pacesUp_len L (25 - s).toNat s
    dsimp only
    omega
  · simp
theorem ret_sb {k : List (Int × Int) × Bool} {A : Option Addr} {c : Nat} {l : List (Int × Int)} {b : Bool} (h : k = (l, b)) : Ending.returned (.tuple #[.slice A l.length c, .bool b]) = .returned (.tuple #[.slice A k.1.length c, .bool k.2]) := by rw [h]

set_option maxHeartbeats 2000000 in
theorem s_PacesAt (L s : Int) (w : World) :
    Calls Try.prog 19 #[.int .i64 L, .int .i64 s] w fun e w' => ∃ A c, e = .returned (.tuple #[.slice A (pacesAt L s).1.length c, .bool (pacesAt L s).2]) ∧
      w'.ownsRow w.heap.size 24 2 (.slice A (pacesAt L s).1.length c) (pacesAt L s).1.length (flat (pacesAt L s).1) ∧ Gw w w' := by
  obtain ⟨i0, hi, hz0, hz1, hz2⟩ := info_parts infoPace
  go_enter Try.func19, Try.ntmps19
  go_wp2_with (first | (go_at_call 64; refine (s_paLimit _ _).mono ?_; rintro e w' (⟨hp, rfl, rfl⟩ | ⟨hp, rfl, rfl⟩)) | (go_at_call 68; refine (s_mvStep _ _).mono ?_; rintro e w' (⟨hp, rfl, rfl⟩ | ⟨hp, rfl, rfl⟩)))
  all_goals first
    | (go_ret2
       have hno : pacesAt L s = ([], false) := by unfold pacesAt; rw [if_neg (by omega)]
       exact ⟨none, 0, ret_sb (A := none) (c := 0) hno, by rw [hno]; exact World.ownsRow_nil _ _ _ _, by (repeat (first | with_reducible exact Gw.refl _ | with_reducible assumption | ((with_reducible refine Gw.set ?_ ?_ _); rotate_left; (focus (first | (simp; done) | (simp; omega) | omega))) | with_reducible refine Gw.alloc ?_ _ | with_reducible refine Gw.drew ?_ | with_reducible refine Gw.drewN ?_ _ | (refine Gw.trans ?_ (by with_reducible assumption))))⟩)
    | skip
  have hv : Hid (pacesAt L s = (pacesUp L (25 - s).toNat s, true)) := by unfold Hid pacesAt; rw [if_pos (by omega)]
  go_loopw [1, 6] (fun q o wr => ∃ (k : Int) (acc : List (Int × Int)) (A : Option Addr) (c : Nat), q = .int .i64 k ∧ s ≤ k ∧ k ≤ 25 ∧ o = .slice A acc.length c ∧ acc.length ≤ 25 ∧ (acc.length : Int) ≤ k - s ∧
      wr.ownsRow w.heap.size 24 2 (.slice A acc.length c) acc.length (flat acc) ∧ Hid (acc ++ pacesUp L (25 - k).toNat k = pacesUp L (25 - s).toNat s) ∧ Gw w wr) (fun q o _ => (25 - intOf q).toNat)
  case atStart => first
    | exact ⟨s, [], none, 0, rfl, by omega, by omega, rfl, by simp, by simp, World.ownsRow_nil _ _ _ _, rfl, by (repeat (first | with_reducible exact Gw.refl _ | with_reducible assumption | ((with_reducible refine Gw.set ?_ ?_ _); rotate_left; (focus (first | (simp; done) | (simp; omega) | omega))) | with_reducible refine Gw.alloc ?_ _ | with_reducible refine Gw.drew ?_ | with_reducible refine Gw.drewN ?_ _ | (refine Gw.trans ?_ (by with_reducible assumption))))⟩
    | exact ⟨s, [], some ⟨w.heap.size, 0, none⟩, 0, rfl, by omega, by omega, rfl, by simp, by simp, World.ownsRow_made w #[] 0 (Nat.le_refl _) (by simp [maxLen]) (by simp), rfl, by (repeat (first | with_reducible exact Gw.refl _ | with_reducible assumption | ((with_reducible refine Gw.set ?_ ?_ _); rotate_left; (focus (first | (simp; done) | (simp; omega) | omega))) | with_reducible refine Gw.alloc ?_ _ | with_reducible refine Gw.drew ?_ | with_reducible refine Gw.drewN ?_ _ | (refine Gw.trans ?_ (by with_reducible assumption))))⟩
  case round =>
    obtain ⟨k, acc, A, c, rfl, hk1, hk2, rfl, ha1, ha2, hown, hup, hgw⟩ := hrel
    by_cases hlt : k ≤ 24
    · have hup' : Hid (acc ++ (if L % k = 0 ∧ PaceP k (L / k) then (k, L / k) :: pacesUp L (25 - (k + 1)).toNat (k + 1) else pacesUp L (25 - (k + 1)).toNat (k + 1)) = pacesUp L (25 - s).toNat s) := by
        unfold Hid
        rw [← hup.out, show (25 - k).toNat = (25 - (k + 1)).toNat + 1 by omega]
        rfl
      clear hup
      by_cases hc : L % k = 0
      · by_cases hp : PaceP k (L / k)
        · have hb0 : (L % k == 0) = true := by simp [hc]
          have hn : Hid (acc ++ [(k, L / k)] ++ pacesUp L (25 - (k + 1)).toNat (k + 1) = pacesUp L (25 - s).toNat s) := by
            unfold Hid; rw [← hup'.out, if_pos ⟨hc, hp⟩, List.append_assoc]; rfl
          clear hup'
          have Hp : Hid (PaceP k (L / k)) := hp
          have hp2 : 40 ≤ L / k ∧ L / k ≤ 220 := hp.2
          clear hp
          go_wp2_with (first
            | (go_at_call 55; refine (s_paGood _ _ _).mono ?_; rintro e w' (⟨_, rfl, hb⟩ | ⟨hp', _⟩) <;> first | (exact absurd Hp.out hp') | (have hc := hb.cells; have hf := hb.frozens; have hz := hb.size; (try simp at hz); (try have hz0 : w.heap.size < w'.heap.size := (by omega)); (try have hz1 : w.heap.size + 1 < w'.heap.size := (by omega)); (try have hz2 : w.heap.size + 2 < w'.heap.size := (by omega)); (try have hz3 : w.heap.size + 3 < w'.heap.size := (by omega)); (try have hz4 : w.heap.size + 4 < w'.heap.size := (by omega)); (try have hz5 : w.heap.size + 5 < w'.heap.size := (by omega)); have hownc := own_gw (hown.alloc _) hb))
            | (at_builtin; refine wpList_push (α := Int × Int) rfl (.tmp 33) (.tmp 35) 34 rfl w.heap.size 24 i0 _ 16 Try.underlying34 hi hz0 hz1 hz2 rfl (by omega) acc A c rfl w' (k, L / k) rfl _ rfl rfl hownc (by omega) (by have := hgw.size; omega) ?_; intro acc' A' c' w2 hacc hl1 hl2 hown' _ hgg))
          go_roundw
          case rel => exact ⟨k + 1, acc', A', c', by go_num, by omega, by omega, rfl, by omega, by omega, hown', by unfold Hid; rw [hacc.out]; exact hn.out, hgg w (by (repeat (first | with_reducible exact Gw.refl _ | with_reducible assumption | ((with_reducible refine Gw.set ?_ ?_ _); rotate_left; (focus (first | (simp; done) | (simp; omega) | omega))) | with_reducible refine Gw.alloc ?_ _ | with_reducible refine Gw.drew ?_ | with_reducible refine Gw.drewN ?_ _ | (refine Gw.trans ?_ (by with_reducible assumption))))) (Nat.le_refl _)⟩
          case measure => simp [intOf]; omega
        · have hb0 : (L % k == 0) = true := by simp [hc]
          have hn : Hid (acc ++ pacesUp L (25 - (k + 1)).toNat (k + 1) = pacesUp L (25 - s).toNat s) := by
            unfold Hid; rw [← hup'.out, if_neg (fun h => hp h.2)]
          clear hup'
          have Hp : Hid (¬PaceP k (L / k)) := hp
          clear hp
          go_wp2_with (first
            | (go_at_call 55; refine (s_paGood _ _ _).mono ?_; rintro e w' (⟨hp', _⟩ | ⟨_, rfl, hb⟩) <;> first | (exact absurd hp' Hp.out) | (have hc := hb.cells; have hf := hb.frozens; have hz := hb.size; (try simp at hz); (try have hz0 : w.heap.size < w'.heap.size := (by omega)); (try have hz1 : w.heap.size + 1 < w'.heap.size := (by omega)); (try have hz2 : w.heap.size + 2 < w'.heap.size := (by omega)); (try have hz3 : w.heap.size + 3 < w'.heap.size := (by omega)); (try have hz4 : w.heap.size + 4 < w'.heap.size := (by omega)); (try have hz5 : w.heap.size + 5 < w'.heap.size := (by omega)); have hownc := own_gw (hown.alloc _) hb)))
          go_roundw
          case rel => exact ⟨k + 1, acc, A, c, by go_num, by omega, by omega, rfl, by omega, by omega, hownc, hn, by (repeat (first | with_reducible exact Gw.refl _ | with_reducible assumption | ((with_reducible refine Gw.set ?_ ?_ _); rotate_left; (focus (first | (simp; done) | (simp; omega) | omega))) | with_reducible refine Gw.alloc ?_ _ | with_reducible refine Gw.drew ?_ | with_reducible refine Gw.drewN ?_ _ | (refine Gw.trans ?_ (by with_reducible assumption))))⟩
          case measure => simp [intOf]; omega
      · have hb0 : (L % k == 0) = false := by simp [hc]
        have hn : Hid (acc ++ pacesUp L (25 - (k + 1)).toNat (k + 1) = pacesUp L (25 - s).toNat s) := by
          unfold Hid; rw [← hup'.out, if_neg (fun h => hc h.1)]
        clear hup'
        have Hc : Hid (¬L % k = 0) := hc
        clear hc
        go_wp2_with fail
        go_roundw
        case rel => exact ⟨k + 1, acc, A, c, by go_num, by omega, by omega, rfl, by omega, by omega, hown.alloc _, hn, by (repeat (first | with_reducible exact Gw.refl _ | with_reducible assumption | ((with_reducible refine Gw.set ?_ ?_ _); rotate_left; (focus (first | (simp; done) | (simp; omega) | omega))) | with_reducible refine Gw.alloc ?_ _ | with_reducible refine Gw.drew ?_ | with_reducible refine Gw.drewN ?_ _ | (refine Gw.trans ?_ (by with_reducible assumption))))⟩
        case measure => simp [intOf]; omega
    · obtain rfl : k = 25 := by omega
      have hfin : Hid (pacesAt L s = (acc, true)) := by
        unfold Hid; rw [hv.out, ← hup.out]; simp [pacesUp]
      go_wp2_with fail
      go_ret2
      exact ⟨A, c, ret_sb hfin.out, by rw [hfin.out]; exact hown, by (repeat (first | with_reducible exact Gw.refl _ | with_reducible assumption | ((with_reducible refine Gw.set ?_ ?_ _); rotate_left; (focus (first | (simp; done) | (simp; omega) | omega))) | with_reducible refine Gw.alloc ?_ _ | with_reducible refine Gw.drew ?_ | with_reducible refine Gw.drewN ?_ _ | (refine Gw.trans ?_ (by with_reducible assumption))))⟩

set_option maxHeartbeats 2000000 in
theorem i_PacesAt (L s : Int) (w : World) :
    Calls Try.prog 18 #[.int .i64 L, .int .i64 s] w fun e w' => ∃ A c, e = .returned (.tuple #[.slice A (pacesAt L s).1.length c, .bool (pacesAt L s).2]) ∧
      w'.ownsRow w.heap.size 24 2 (.slice A (pacesAt L s).1.length c) (pacesAt L s).1.length (flat (pacesAt L s).1) ∧ Gw w w' := by
  obtain ⟨i0, hi, hz0, hz1, hz2⟩ := info_parts infoPace
  go_enter Try.func18, Try.ntmps18
  go_wp2_with (first | (go_at_call 62; refine (i_isLimit _ _).mono ?_; rintro e w' (⟨hp, rfl, rfl⟩ | ⟨hp, rfl, rfl⟩)) | (go_at_call 67; refine (i_within _ _ _ _).mono ?_; rintro e w' (⟨hp, rfl, rfl⟩ | ⟨hp, rfl, rfl⟩)))
  all_goals first
    | (go_ret2
       have hno : pacesAt L s = ([], false) := by unfold pacesAt; rw [if_neg (by omega)]
       exact ⟨none, 0, ret_sb (A := none) (c := 0) hno, by rw [hno]; exact World.ownsRow_nil _ _ _ _, by (repeat (first | with_reducible exact Gw.refl _ | with_reducible assumption | ((with_reducible refine Gw.set ?_ ?_ _); rotate_left; (focus (first | (simp; done) | (simp; omega) | omega))) | with_reducible refine Gw.alloc ?_ _ | with_reducible refine Gw.drew ?_ | with_reducible refine Gw.drewN ?_ _ | (refine Gw.trans ?_ (by with_reducible assumption))))⟩)
    | skip
  have hv : Hid (pacesAt L s = (pacesUp L (25 - s).toNat s, true)) := by unfold Hid pacesAt; rw [if_pos (by omega)]
  go_loopw [6, 7] (fun o q wr => ∃ (k : Int) (acc : List (Int × Int)) (A : Option Addr) (c : Nat), q = .int .i64 k ∧ s ≤ k ∧ k ≤ 25 ∧ o = .slice A acc.length c ∧ acc.length ≤ 25 ∧ (acc.length : Int) ≤ k - s ∧
      wr.ownsRow w.heap.size 24 2 (.slice A acc.length c) acc.length (flat acc) ∧ Hid (acc ++ pacesUp L (25 - k).toNat k = pacesUp L (25 - s).toNat s) ∧ Gw w wr) (fun o q _ => (25 - intOf q).toNat)
  case atStart => first
    | exact ⟨s, [], none, 0, rfl, by omega, by omega, rfl, by simp, by simp, World.ownsRow_nil _ _ _ _, rfl, by (repeat (first | with_reducible exact Gw.refl _ | with_reducible assumption | ((with_reducible refine Gw.set ?_ ?_ _); rotate_left; (focus (first | (simp; done) | (simp; omega) | omega))) | with_reducible refine Gw.alloc ?_ _ | with_reducible refine Gw.drew ?_ | with_reducible refine Gw.drewN ?_ _ | (refine Gw.trans ?_ (by with_reducible assumption))))⟩
    | exact ⟨s, [], some ⟨w.heap.size, 0, none⟩, 0, rfl, by omega, by omega, rfl, by simp, by simp, World.ownsRow_made w #[] 0 (Nat.le_refl _) (by simp [maxLen]) (by simp), rfl, by (repeat (first | with_reducible exact Gw.refl _ | with_reducible assumption | ((with_reducible refine Gw.set ?_ ?_ _); rotate_left; (focus (first | (simp; done) | (simp; omega) | omega))) | with_reducible refine Gw.alloc ?_ _ | with_reducible refine Gw.drew ?_ | with_reducible refine Gw.drewN ?_ _ | (refine Gw.trans ?_ (by with_reducible assumption))))⟩
  case round =>
    obtain ⟨k, acc, A, c, rfl, hk1, hk2, rfl, ha1, ha2, hown, hup, hgw⟩ := hrel
    by_cases hlt : k ≤ 24
    · have hup' : Hid (acc ++ (if L % k = 0 ∧ PaceP k (L / k) then (k, L / k) :: pacesUp L (25 - (k + 1)).toNat (k + 1) else pacesUp L (25 - (k + 1)).toNat (k + 1)) = pacesUp L (25 - s).toNat s) := by
        unfold Hid
        rw [← hup.out, show (25 - k).toNat = (25 - (k + 1)).toNat + 1 by omega]
        rfl
      clear hup
      by_cases hc : L % k = 0
      · by_cases hp : PaceP k (L / k)
        · have hb0 : (L % k == 0) = true := by simp [hc]
          have hn : Hid (acc ++ [(k, L / k)] ++ pacesUp L (25 - (k + 1)).toNat (k + 1) = pacesUp L (25 - s).toNat s) := by
            unfold Hid; rw [← hup'.out, if_pos ⟨hc, hp⟩, List.append_assoc]; rfl
          clear hup'
          have Hp : Hid (PaceP k (L / k)) := hp
          have hp2 : 40 ≤ L / k ∧ L / k ≤ 220 := hp.2
          clear hp
          go_wp2_with (first
            | (go_at_call 21; refine (i_IsPace _ _ _).mono ?_; rintro e w' (⟨_, rfl, hb⟩ | ⟨hp', _⟩) <;> first | (exact absurd Hp.out hp') | (have hc := hb.cells; have hf := hb.frozens; have hz := hb.size; (try simp at hz); (try have hz0 : w.heap.size < w'.heap.size := (by omega)); (try have hz1 : w.heap.size + 1 < w'.heap.size := (by omega)); (try have hz2 : w.heap.size + 2 < w'.heap.size := (by omega)); (try have hz3 : w.heap.size + 3 < w'.heap.size := (by omega)); (try have hz4 : w.heap.size + 4 < w'.heap.size := (by omega)); (try have hz5 : w.heap.size + 5 < w'.heap.size := (by omega)); have hownc := own_gw (hown.alloc _) hb))
            | (at_builtin; refine wpList_push (α := Int × Int) rfl (.tmp 36) (.tmp 38) 34 rfl w.heap.size 24 i0 _ 16 Try.underlying34 hi hz0 hz1 hz2 rfl (by omega) acc A c rfl w' (k, L / k) rfl _ rfl rfl hownc (by omega) (by have := hgw.size; omega) ?_; intro acc' A' c' w2 hacc hl1 hl2 hown' _ hgg))
          go_roundw
          case rel => exact ⟨k + 1, acc', A', c', by go_num, by omega, by omega, rfl, by omega, by omega, hown', by unfold Hid; rw [hacc.out]; exact hn.out, hgg w (by (repeat (first | with_reducible exact Gw.refl _ | with_reducible assumption | ((with_reducible refine Gw.set ?_ ?_ _); rotate_left; (focus (first | (simp; done) | (simp; omega) | omega))) | with_reducible refine Gw.alloc ?_ _ | with_reducible refine Gw.drew ?_ | with_reducible refine Gw.drewN ?_ _ | (refine Gw.trans ?_ (by with_reducible assumption))))) (Nat.le_refl _)⟩
          case measure => simp [intOf]; omega
        · have hb0 : (L % k == 0) = true := by simp [hc]
          have hn : Hid (acc ++ pacesUp L (25 - (k + 1)).toNat (k + 1) = pacesUp L (25 - s).toNat s) := by
            unfold Hid; rw [← hup'.out, if_neg (fun h => hp h.2)]
          clear hup'
          have Hp : Hid (¬PaceP k (L / k)) := hp
          clear hp
          go_wp2_with (first
            | (go_at_call 21; refine (i_IsPace _ _ _).mono ?_; rintro e w' (⟨hp', _⟩ | ⟨_, rfl, hb⟩) <;> first | (exact absurd hp' Hp.out) | (have hc := hb.cells; have hf := hb.frozens; have hz := hb.size; (try simp at hz); (try have hz0 : w.heap.size < w'.heap.size := (by omega)); (try have hz1 : w.heap.size + 1 < w'.heap.size := (by omega)); (try have hz2 : w.heap.size + 2 < w'.heap.size := (by omega)); (try have hz3 : w.heap.size + 3 < w'.heap.size := (by omega)); (try have hz4 : w.heap.size + 4 < w'.heap.size := (by omega)); (try have hz5 : w.heap.size + 5 < w'.heap.size := (by omega)); have hownc := own_gw (hown.alloc _) hb)))
          go_roundw
          case rel => exact ⟨k + 1, acc, A, c, by go_num, by omega, by omega, rfl, by omega, by omega, hownc, hn, by (repeat (first | with_reducible exact Gw.refl _ | with_reducible assumption | ((with_reducible refine Gw.set ?_ ?_ _); rotate_left; (focus (first | (simp; done) | (simp; omega) | omega))) | with_reducible refine Gw.alloc ?_ _ | with_reducible refine Gw.drew ?_ | with_reducible refine Gw.drewN ?_ _ | (refine Gw.trans ?_ (by with_reducible assumption))))⟩
          case measure => simp [intOf]; omega
      · have hb0 : (L % k == 0) = false := by simp [hc]
        have hn : Hid (acc ++ pacesUp L (25 - (k + 1)).toNat (k + 1) = pacesUp L (25 - s).toNat s) := by
          unfold Hid; rw [← hup'.out, if_neg (fun h => hc h.1)]
        clear hup'
        have Hc : Hid (¬L % k = 0) := hc
        clear hc
        go_wp2_with fail
        go_roundw
        case rel => exact ⟨k + 1, acc, A, c, by go_num, by omega, by omega, rfl, by omega, by omega, hown.alloc _, hn, by (repeat (first | with_reducible exact Gw.refl _ | with_reducible assumption | ((with_reducible refine Gw.set ?_ ?_ _); rotate_left; (focus (first | (simp; done) | (simp; omega) | omega))) | with_reducible refine Gw.alloc ?_ _ | with_reducible refine Gw.drew ?_ | with_reducible refine Gw.drewN ?_ _ | (refine Gw.trans ?_ (by with_reducible assumption))))⟩
        case measure => simp [intOf]; omega
    · obtain rfl : k = 25 := by omega
      have hfin : Hid (pacesAt L s = (acc, true)) := by
        unfold Hid; rw [hv.out, ← hup.out]; simp [pacesUp]
      go_wp2_with fail
      go_ret2
      exact ⟨A, c, ret_sb hfin.out, by rw [hfin.out]; exact hown, by (repeat (first | with_reducible exact Gw.refl _ | with_reducible assumption | ((with_reducible refine Gw.set ?_ ?_ _); rotate_left; (focus (first | (simp; done) | (simp; omega) | omega))) | with_reducible refine Gw.alloc ?_ _ | with_reducible refine Gw.drew ?_ | with_reducible refine Gw.drewN ?_ _ | (refine Gw.trans ?_ (by with_reducible assumption))))⟩

end Go.Proofs.Ytehkpdepomgapaa
