/-
  Contracts of what the laws do with values of the type Int and lists of them: copies, comparisons, marks.
-/
import Derived.Test.YtphfaeefjcdjjaaList
import Derived.Test.YtphfaeefjcdjjaaProg
namespace Go.Proofs.Ytphfaeefjcdjjaa
open Go.RowKit

theorem infoInt : (Try.prog.info? 3).map (fun i => (i.zero, i.size, i.bytes)) = some (some (.int .i64 0), 1, 8) := by kernel_rfl

set_option maxHeartbeats 400000 in
theorem l_eqIntS (A B : Option Addr) (c d : Nat) (l : List Int) (w : World) (hl : l.length ≤ 1048576) (hA : Rd w A l) (hB : Rd w B l) :
    Calls Try.prog 8 #[.slice A l.length c, .slice B l.length d] w fun e w' => e = .returned (.bool true) ∧ Gw w w' := by
  go_enter Try.func8, Try.ntmps8
  go_wp2
  go_loopw [5] (fun i wr => ∃ k : Nat, i = .int .i64 k ∧ k ≤ l.length ∧ Gw w wr) (fun i _ => l.length - (intOf i).toNat)
  case atStart => exact ⟨0, by go_num, Nat.zero_le _, by (repeat (first | with_reducible exact Gw.refl _ | with_reducible assumption | ((with_reducible refine Gw.set ?_ ?_ _); rotate_left; (focus (first | (simp; done) | (simp; omega) | omega))) | with_reducible refine Gw.alloc ?_ _ | with_reducible refine Gw.drew ?_ | with_reducible refine Gw.drewN ?_ _ | (refine Gw.trans ?_ (by with_reducible assumption))))⟩
  case round =>
    obtain ⟨k, rfl, hk, hgw⟩ := hrel
    by_cases hlt : k < l.length
    · obtain ⟨x, hx⟩ := get_of_lt hlt
      obtain ⟨b, off, rfl, hb, c0⟩ := (hA.gw hgw).get1 hx
      obtain ⟨b', off', rfl, hb', d0⟩ := (hB.gw hgw).get1 hx
      have Hx : Hid (l[k]? = some x) := hx; clear hx
      go_wp2_with ((with_reducible refine wp_region_gw (by kernel_rfl) (by kernel_rfl) ?_); have hcq := @GwOf.cell; (repeat (go_big_quiet_step (fail))); refine wpQuiet_nil ?_; clear hcq; rintro w' ⟨⟨w', hb⟩, rfl⟩; (try dsimp only); have hc := hb.cells; have hf := hb.frozens; have hz := hb.size; (try simp at hz); (try have hz0 : w.heap.size < w'.heap.size := (by omega)); (try have hz1 : w.heap.size + 1 < w'.heap.size := (by omega)); (try have hz2 : w.heap.size + 2 < w'.heap.size := (by omega)); (try have hz3 : w.heap.size + 3 < w'.heap.size := (by omega)); (try have hz4 : w.heap.size + 4 < w'.heap.size := (by omega)); (try have hz5 : w.heap.size + 5 < w'.heap.size := (by omega)))
      go_roundw
      case rel => exact ⟨k + 1, by go_num, by omega, by (repeat (first | with_reducible exact Gw.refl _ | with_reducible assumption | ((with_reducible refine Gw.set ?_ ?_ _); rotate_left; (focus (first | (simp; done) | (simp; omega) | omega))) | with_reducible refine Gw.alloc ?_ _ | with_reducible refine Gw.drew ?_ | with_reducible refine Gw.drewN ?_ _ | (refine Gw.trans ?_ (by with_reducible assumption))))⟩
      case measure => simp [intOf]; omega
    · go_wp2
      go_ret
      exact ⟨rfl, by (repeat (first | with_reducible exact Gw.refl _ | with_reducible assumption | ((with_reducible refine Gw.set ?_ ?_ _); rotate_left; (focus (first | (simp; done) | (simp; omega) | omega))) | with_reducible refine Gw.alloc ?_ _ | with_reducible refine Gw.drew ?_ | with_reducible refine Gw.drewN ?_ _ | (refine Gw.trans ?_ (by with_reducible assumption))))⟩

theorem l_szIntS (A : Option Addr) (c n : Nat) (m : Int) (w : World) (hn : n ≤ 9223372036854775807) (hm : 0 ≤ m ∧ m ≤ 1048576) :
    Calls Try.prog 14 #[.slice A n c, .int .i64 m] w fun e w' => e = .returned (.int .i64 (if m < n then -1 else m - n)) ∧ w = w' := by
  by_cases h : m < n
  · go_enter Try.func14, Try.ntmps14
    go_wp2
    go_ret
    exact ⟨ret_int (by first | rfl | omega | (split <;> omega)), rfl⟩
  · go_enter Try.func14, Try.ntmps14
    go_wp2
    go_ret
    exact ⟨ret_int (by first | rfl | omega | (split <;> omega)), rfl⟩

set_option maxHeartbeats 1000000 in
theorem l_toIntS (A : Option Addr) (c : Nat) (l : List Int) (w : World) (hl : l.length ≤ 1048576) (hA : Rd w A l) :
    Calls Try.prog 19 #[.slice A l.length c] w fun e w' => ∃ g, e = .returned (.slice (some ⟨g, 0, none⟩) l.length l.length) ∧ w.heap.size ≤ g ∧
      w'.ownsRow w.heap.size 3 1 (.slice (some ⟨g, 0, none⟩) l.length l.length) l.length (flat l) ∧ Gw w w' := by
  obtain ⟨i0, hi, hz0, hz1, hz2⟩ := info_parts infoInt
  go_enter Try.func19, Try.ntmps19
  go_wp2_with (at_make; refine wpList_make_full _ rfl (.tmp 6) (.tmp 6) 23 rfl w.heap.size 3 i0 _ 1 Try.underlying23 hi hz0 hz1 .i64 .i64 l.length l.length l.length rfl rfl rfl rfl (by rw [hz2]; omega) (by unfold maxLen; omega) (Nat.le_refl _) ?_; intro w1 hown1 hg1)
  generalize (madeCells _ _).toList = Z at hown1
  have hZ : Hid (Z.length = l.length * 1) := hown1.1
  have hlen : Hid ((flat l).length = Z.length) := by have := flat_len l; unfold Hid; rw [hZ.out, this]; rfl
  have hG : Gw w w1 := ⟨hg1.os, hg1.tape, hg1.output, hg1.size, fun k hk => hg1.block k hk (by simp)⟩
  clear hi hz0 hz1 hz2 hg1
  go_loopw [4] (fun i wr => ∃ k : Nat, i = .int .i64 k ∧ k ≤ l.length ∧ wr.ownsRow w.heap.size 3 1 (.slice (some ⟨w.heap.size, 0, none⟩) l.length l.length) l.length (mix (flat l) Z (k)) ∧ Gw w wr) (fun i _ => l.length - (intOf i).toNat)
  case atStart => exact ⟨0, by go_num, Nat.zero_le _, by rw [show 0 = 0 from rfl, mix_zero]; exact hown1, hG⟩
  case round =>
    obtain ⟨k, rfl, hk, hown, hgw⟩ := hrel
    clear hown1 hG
    by_cases hlt : k < l.length
    · obtain ⟨x, hx⟩ := get_of_lt hlt
      obtain ⟨b, off, rfl, hb, c0⟩ := (hA.gw hgw).get1 hx
      have f0 : (flat l)[k]? = some (.int .i64 x) := by have := flat_get l k 0 x _ hx rfl; simpa [show Flat.sz Int = 1 from rfl] using this
      have F0 := f0; clear f0; have f0 : Hid ((flat l)[k]? = some (.int .i64 x)) := F0; clear F0
      clear hx
      obtain ⟨u0, e0⟩ := own_cell hown (j := k) (by omega); have fz0 := World.ownsRow.frozenAt hown (k)
      go_wp2
      have r0 := own_fill (m := k) hown hlen.out f0.out
      go_roundw
      case rel => exact ⟨k + 1, by go_num, by omega, by rw [show k + 1 = k + 1 by omega]; exact r0.1, by (repeat (first | with_reducible exact Gw.refl _ | with_reducible assumption | ((with_reducible refine Gw.set ?_ ?_ _); rotate_left; (focus (first | (simp; done) | (simp; omega) | omega))) | with_reducible refine Gw.alloc ?_ _ | with_reducible refine Gw.drew ?_ | with_reducible refine Gw.drewN ?_ _ | (refine Gw.trans ?_ (by with_reducible assumption))))⟩
      case measure => simp [intOf]; omega
    · obtain rfl : k = l.length := by omega
      go_wp2
      go_ret
      have hfin := hown
      rw [mix_all hlen.out (by rw [hZ.out]; omega)] at hfin
      exact ⟨_, rfl, Nat.le_refl _, hfin, by (repeat (first | with_reducible exact Gw.refl _ | with_reducible assumption | ((with_reducible refine Gw.set ?_ ?_ _); rotate_left; (focus (first | (simp; done) | (simp; omega) | omega))) | with_reducible refine Gw.alloc ?_ _ | with_reducible refine Gw.drew ?_ | with_reducible refine Gw.drewN ?_ _ | (refine Gw.trans ?_ (by with_reducible assumption))))⟩

set_option maxHeartbeats 1000000 in
theorem l_markIntS (A : Option Addr) (n c base : Nat) (xs : List Value) (k0 : Int) (w : World) (hn : n ≤ 1048576) (hk0 : 0 ≤ k0 ∧ k0 ≤ 100000000) (ho : w.ownsRow base 3 1 (.slice A n c) n xs) :
    Calls Try.prog 11 #[.slice A n c, .int .i64 k0] w fun e w' => e = .returned (.int .i64 (k0 + (n : Int))) ∧
      w'.ownsRow base 3 1 (.slice A n c) n (marks k0 (n * 1)) ∧ w.grownBy w' (Value.slice A n c).ownBlock := by
  have hZ : Hid (xs.length = n * 1) := ho.1
  have hlen : Hid ((marks k0 (n * 1)).length = xs.length) := by unfold Hid; rw [hZ.out, marks_len]
  go_enter Try.func11, Try.ntmps11
  go_wp2
  go_loopw [1, 5] (fun q i wr => ∃ k : Nat, i = .int .i64 k ∧ k ≤ n ∧ q = .int .i64 (k0 + (k : Int)) ∧ wr.ownsRow base 3 1 (.slice A n c) n (mix (marks k0 (n * 1)) xs (k)) ∧ w.grownBy wr (Value.slice A n c).ownBlock) (fun _ i _ => n - (intOf i).toNat)
  case atStart => exact ⟨0, by go_num, Nat.zero_le _, by go_num, by rw [show 0 = 0 from rfl, mix_zero]; exact ho, World.grownBy.refl w _⟩
  case round =>
    obtain ⟨k, rfl, hk, rfl, hown, hgw⟩ := hrel
    clear ho
    by_cases hlt : k < n
    · obtain ⟨g, rfl, hbg, hg⟩ := own_addr hown (by omega)
      have f0 : Hid ((marks k0 (n * 1))[k]? = some (.int .i64 (k0 + (k : Int)))) := by unfold Hid; rw [marks_get (by omega)]; try (first | (simp; done) | (simp; omega))
      obtain ⟨u0, e0⟩ := own_cell hown (j := k) (by omega); have fz0 := World.ownsRow.frozenAt hown (k)
      go_wp2
      have r0 := own_fill (m := k) hown hlen.out f0.out
      have hgw' : w.grownBy wr (some g) := hgw
      have q0 := grownBy_trans hgw' r0.2
      go_roundw
      case rel => exact ⟨k + 1, by go_num, by omega, by go_num, by rw [show k + 1 = k + 1 by omega]; exact r0.1, q0⟩
      case measure => simp [intOf]; omega
    · obtain rfl : k = n := by omega
      go_wp2
      go_ret
      have hfin := hown
      rw [mix_all hlen.out (by rw [hZ.out]; omega)] at hfin
      exact ⟨rfl, hfin, hgw⟩

set_option maxHeartbeats 1000000 in
theorem l_heldIntS (A : Option Addr) (n c base : Nat) (k0 : Int) (w : World) (hn : n ≤ 1048576) (hk0 : 0 ≤ k0 ∧ k0 ≤ 100000000) (ho : w.ownsRow base 3 1 (.slice A n c) n (marks k0 (n * 1))) :
    Calls Try.prog 12 #[.slice A n c, .int .i64 k0] w fun e w' => e = .returned (.int .i64 (k0 + (n : Int))) ∧ w = w' := by
  go_enter Try.func12, Try.ntmps12
  go_wp2
  go_loop [1, 5] (fun q i => ∃ k : Nat, i = .int .i64 k ∧ k ≤ n ∧ q = .int .i64 (k0 + (k : Int))) (fun _ i => n - (intOf i).toNat)
  case atStart => exact ⟨0, by go_num, Nat.zero_le _, by go_num⟩
  case round =>
    obtain ⟨k, rfl, hk, rfl⟩ := hrel
    by_cases hlt : k < n
    · obtain ⟨g, rfl, hbg, hg⟩ := own_addr ho (by omega)
      have c0 : w.cell? ⟨g, k, none⟩ = some (.int .i64 (k0 + (k : Int))) := by rw [World.ownsRow.cellAt ho _ (by omega), marks_get (by omega)]; try (first | (simp; done) | (simp; omega))
      clear ho
      go_wp2
      go_round
      case rel => exact ⟨k + 1, by go_num, by omega, by go_num⟩
      case measure => simp [intOf]; omega
    · obtain rfl : k = n := by omega
      go_wp2
      go_ret
      exact ⟨rfl, rfl⟩

end Go.Proofs.Ytphfaeefjcdjjaa
