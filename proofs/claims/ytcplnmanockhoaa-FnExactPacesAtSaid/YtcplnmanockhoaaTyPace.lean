/-
  Contracts of what the laws do with values of the type Pace and lists of them: copies, comparisons, marks.
-/
import Derived.Test.YtcplnmanockhoaaList
import Derived.Test.YtcplnmanockhoaaProg
namespace Go.Proofs.Ytcplnmanockhoaa
open Go.RowKit

theorem infoPace : (Try.prog.info? 25).map (fun i => (i.zero, i.size, i.bytes)) = some (some (.agg #[.int .i64 0, .int .i64 0]), 2, 16) := by kernel_rfl

theorem l_toPace (a b : Int) (w : World) :
    Calls Try.prog 16 #[.agg #[.int .i64 a, .int .i64 b]] w fun e w' => e = .returned (.agg #[.int .i64 a, .int .i64 b]) ∧ Gw w w' := by
  go_enter Try.func16, Try.ntmps16
  go_wp2
  exact bodyPost_ret (v := .agg #[.int .i64 a, .int .i64 b]) (by simp [results, Try.results16, go_sem]) rfl ⟨rfl, by (repeat (first | with_reducible exact Gw.refl _ | with_reducible assumption | ((with_reducible refine Gw.set ?_ ?_ _); rotate_left; (focus (first | (simp; done) | (simp; omega) | omega))) | with_reducible refine Gw.alloc ?_ _ | with_reducible refine Gw.drew ?_ | with_reducible refine Gw.drewN ?_ _ | (refine Gw.trans ?_ (by with_reducible assumption))))⟩

theorem l_eqPace (a b : Int) (w : World) :
    Calls Try.prog 91 #[.agg #[.int .i64 a, .int .i64 b], .agg #[.int .i64 a, .int .i64 b]] w fun e w' => e = .returned (.bool true) ∧ Gw w w' := by
  go_enter Try.func91, Try.ntmps91
  go_wp2
  go_ret
  exact ⟨rfl, by (repeat (first | with_reducible exact Gw.refl _ | with_reducible assumption | ((with_reducible refine Gw.set ?_ ?_ _); rotate_left; (focus (first | (simp; done) | (simp; omega) | omega))) | with_reducible refine Gw.alloc ?_ _ | with_reducible refine Gw.drew ?_ | with_reducible refine Gw.drewN ?_ _ | (refine Gw.trans ?_ (by with_reducible assumption))))⟩

set_option maxHeartbeats 400000 in
theorem l_eqPaceS (A B : Option Addr) (c d : Nat) (l : List (Int × Int)) (w : World) (hl : l.length ≤ 1048576) (hA : Rd w A l) (hB : Rd w B l) :
    Calls Try.prog 34 #[.slice A l.length c, .slice B l.length d] w fun e w' => e = .returned (.bool true) ∧ Gw w w' := by
  go_enter Try.func34, Try.ntmps34
  go_wp2
  go_loopw [5] (fun i wr => ∃ k : Nat, i = .int .i64 k ∧ k ≤ l.length ∧ Gw w wr) (fun i _ => l.length - (intOf i).toNat)
  case atStart => exact ⟨0, by go_num, Nat.zero_le _, by (repeat (first | with_reducible exact Gw.refl _ | with_reducible assumption | ((with_reducible refine Gw.set ?_ ?_ _); rotate_left; (focus (first | (simp; done) | (simp; omega) | omega))) | with_reducible refine Gw.alloc ?_ _ | with_reducible refine Gw.drew ?_ | with_reducible refine Gw.drewN ?_ _ | (refine Gw.trans ?_ (by with_reducible assumption))))⟩
  case round =>
    obtain ⟨k, rfl, hk, hgw⟩ := hrel
    by_cases hlt : k < l.length
    · obtain ⟨x, hx⟩ := get_of_lt hlt
      obtain ⟨b, off, rfl, hb, c0, c1⟩ := (hA.gw hgw).get2 hx
      obtain ⟨b', off', rfl, hb', d0, d1⟩ := (hB.gw hgw).get2 hx
      have Hx : Hid (l[k]? = some x) := hx; clear hx
      go_wp2_with ((with_reducible refine wp_region_gw (by kernel_rfl) (by kernel_rfl) ?_); have hcq := @GwOf.cell; (repeat (go_big_quiet_step ((go_at_call 91; exact GwOf.call (l_eqPace _ _ _))))); refine wpQuiet_nil ?_; clear hcq; rintro w' ⟨⟨w', hb⟩, rfl⟩; (try dsimp only); have hc := hb.cells; have hf := hb.frozens; have hz := hb.size; (try simp at hz); (try have hz0 : w.heap.size < w'.heap.size := (by omega)); (try have hz1 : w.heap.size + 1 < w'.heap.size := (by omega)); (try have hz2 : w.heap.size + 2 < w'.heap.size := (by omega)); (try have hz3 : w.heap.size + 3 < w'.heap.size := (by omega)); (try have hz4 : w.heap.size + 4 < w'.heap.size := (by omega)); (try have hz5 : w.heap.size + 5 < w'.heap.size := (by omega)))
      go_roundw
      case rel => exact ⟨k + 1, by go_num, by omega, by (repeat (first | with_reducible exact Gw.refl _ | with_reducible assumption | ((with_reducible refine Gw.set ?_ ?_ _); rotate_left; (focus (first | (simp; done) | (simp; omega) | omega))) | with_reducible refine Gw.alloc ?_ _ | with_reducible refine Gw.drew ?_ | with_reducible refine Gw.drewN ?_ _ | (refine Gw.trans ?_ (by with_reducible assumption))))⟩
      case measure => simp [intOf]; omega
    · go_wp2
      go_ret
      exact ⟨rfl, by (repeat (first | with_reducible exact Gw.refl _ | with_reducible assumption | ((with_reducible refine Gw.set ?_ ?_ _); rotate_left; (focus (first | (simp; done) | (simp; omega) | omega))) | with_reducible refine Gw.alloc ?_ _ | with_reducible refine Gw.drew ?_ | with_reducible refine Gw.drewN ?_ _ | (refine Gw.trans ?_ (by with_reducible assumption))))⟩

set_option maxHeartbeats 1000000 in
theorem l_markPaceS (A : Option Addr) (n c base : Nat) (xs : List Value) (k0 : Int) (w : World) (hn : n ≤ 1048576) (hk0 : 0 ≤ k0 ∧ k0 ≤ 100000000) (ho : w.ownsRow base 25 2 (.slice A n c) n xs) :
    Calls Try.prog 35 #[.slice A n c, .int .i64 k0] w fun e w' => e = .returned (.int .i64 (k0 + (n : Int) * 2)) ∧
      w'.ownsRow base 25 2 (.slice A n c) n (marks k0 (n * 2)) ∧ w.grownBy w' (Value.slice A n c).ownBlock := by
  have hZ : Hid (xs.length = n * 2) := ho.1
  have hlen : Hid ((marks k0 (n * 2)).length = xs.length) := by unfold Hid; rw [hZ.out, marks_len]
  go_enter Try.func35, Try.ntmps35
  go_wp2
  go_loopw [1, 5] (fun q i wr => ∃ k : Nat, i = .int .i64 k ∧ k ≤ n ∧ q = .int .i64 (k0 + (k : Int) * 2) ∧ wr.ownsRow base 25 2 (.slice A n c) n (mix (marks k0 (n * 2)) xs (k * 2)) ∧ w.grownBy wr (Value.slice A n c).ownBlock) (fun _ i _ => n - (intOf i).toNat)
  case atStart => exact ⟨0, by go_num, Nat.zero_le _, by go_num, by rw [show 0 * 2 = 0 from rfl, mix_zero]; exact ho, World.grownBy.refl w _⟩
  case round =>
    obtain ⟨k, rfl, hk, rfl, hown, hgw⟩ := hrel
    clear ho
    by_cases hlt : k < n
    · obtain ⟨g, rfl, hbg, hg⟩ := own_addr hown (by omega)
      have f0 : Hid ((marks k0 (n * 2))[k * 2]? = some (.int .i64 (k0 + (k : Int) * 2))) := by unfold Hid; rw [marks_get (by omega)]; try (first | (simp; done) | (simp; omega))
      have f1 : Hid ((marks k0 (n * 2))[k * 2 + 1]? = some (.int .i64 (k0 + (k : Int) * 2 + 1))) := by unfold Hid; rw [marks_get (by omega)]; try (first | (simp; done) | (simp; omega))
      obtain ⟨u0, e0⟩ := own_cell hown (j := k * 2) (by omega); have fz0 := World.ownsRow.frozenAt hown (k * 2); obtain ⟨u1, e1⟩ := own_cell hown (j := k * 2 + 1) (by omega); have fz1 := World.ownsRow.frozenAt hown (k * 2 + 1)
      go_wp2
      have r0 := own_fill hown hlen.out f0.out
      have r1 := own_fill r0.1 hlen.out f1.out
      go_roundw
      case rel => exact ⟨k + 1, by go_num, by omega, by go_num, by rw [show (k + 1) * 2 = k * 2 + 1 + 1 by omega]; exact r1.1, grownBy_trans (grownBy_trans (hgw) r0.2) r1.2⟩
      case measure => simp [intOf]; omega
    · obtain rfl : k = n := by omega
      go_wp2
      go_ret
      have hfin := hown
      rw [mix_all hlen.out (by rw [hZ.out]; omega)] at hfin
      exact ⟨rfl, hfin, hgw⟩

set_option maxHeartbeats 1000000 in
theorem l_heldPaceS (A : Option Addr) (n c base : Nat) (k0 : Int) (w : World) (hn : n ≤ 1048576) (hk0 : 0 ≤ k0 ∧ k0 ≤ 100000000) (ho : w.ownsRow base 25 2 (.slice A n c) n (marks k0 (n * 2))) :
    Calls Try.prog 36 #[.slice A n c, .int .i64 k0] w fun e w' => e = .returned (.int .i64 (k0 + (n : Int) * 2)) ∧ w = w' := by
  go_enter Try.func36, Try.ntmps36
  go_wp2
  go_loop [1, 5] (fun q i => ∃ k : Nat, i = .int .i64 k ∧ k ≤ n ∧ q = .int .i64 (k0 + (k : Int) * 2)) (fun _ i => n - (intOf i).toNat)
  case atStart => exact ⟨0, by go_num, Nat.zero_le _, by go_num⟩
  case round =>
    obtain ⟨k, rfl, hk, rfl⟩ := hrel
    by_cases hlt : k < n
    · obtain ⟨g, rfl, hbg, hg⟩ := own_addr ho (by omega)
      have c0 : w.cell? ⟨g, k * 2, none⟩ = some (.int .i64 (k0 + (k : Int) * 2)) := by rw [World.ownsRow.cellAt ho _ (by omega), marks_get (by omega)]; try (first | (simp; done) | (simp; omega))
      have c1 : w.cell? ⟨g, k * 2 + 1, none⟩ = some (.int .i64 (k0 + (k : Int) * 2 + 1)) := by rw [World.ownsRow.cellAt ho _ (by omega), marks_get (by omega)]; try (first | (simp; done) | (simp; omega))
      clear ho
      go_wp2
      go_round
      case rel => exact ⟨k + 1, by go_num, by omega, by go_num⟩
      case measure => simp [intOf]; omega
    · obtain rfl : k = n := by omega
      go_wp2
      go_ret
      exact ⟨rfl, rfl⟩

end Go.Proofs.Ytcplnmanockhoaa
