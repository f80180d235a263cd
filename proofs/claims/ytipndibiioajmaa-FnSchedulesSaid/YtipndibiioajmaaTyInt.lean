/-
  Contracts of what the laws do with values of the type Int and lists of them: copies, comparisons, marks.
-/
import Derived.Test.YtipndibiioajmaaList
import Derived.Test.YtipndibiioajmaaProg
namespace Go.Proofs.Ytipndibiioajmaa
open Go.RowKit

theorem infoInt : (Try.prog.info? 3).map (fun i => (i.zero, i.size, i.bytes)) = some (some (.int .i64 0), 1, 8) := by kernel_rfl

set_option maxHeartbeats 400000 in
theorem l_eqIntS (A B : Option Addr) (c d : Nat) (l : List Int) (w : World) (hl : l.length ≤ 1048576) (hA : Rd w A l) (hB : Rd w B l) :
    Calls Try.prog 11 #[.slice A l.length c, .slice B l.length d] w fun e w' => e = .returned (.bool true) ∧ Gw w w' := by
  go_enter Try.func11, Try.ntmps11
  go_wp2
  go_loopw [5] (fun i wr => ∃ k : Nat, i = .int .i64 k ∧ k ≤ l.length ∧ Gw w wr) (fun i _ => l.length - (intOf i).toNat)
  case atStart => exact ⟨0, by go_num, Nat.zero_le _, by (repeat (first | with_reducible exact Gw.refl _ | with_reducible assumption | ((with_reducible refine Gw.set ?_ ?_ _); rotate_left; (focus (first | (simp; done) | (simp; omega) | omega))) | with_reducible refine Gw.alloc ?_ _ | with_reducible refine Gw.drew ?_ | with_reducible refine Gw.drewN ?_ _ | (refine Gw.trans ?_ (by with_reducible assumption))))⟩
  case round =>
    obtain ⟨k, rfl, hk, hgw⟩ := hrel
    by_cases hlt : k < l.length
    · obtain ⟨x, hx⟩ := get_of_lt hlt
      obtain ⟨b, off, rfl, hb, c0⟩ := (hA.gw hgw).get1 hx
      obtain ⟨b', off', rfl, hb', d0⟩ := (hB.gw hgw).get1 hx
      have Hx : Hid (l[k]? = some x) := hx; clear hx
      go_wp2_with ((with_reducible refine wp_region_gw (by kernel_rfl) (by kernel_rfl) ?_); have hcq := @GwOf.cell; (repeat (go_big_quiet_step (fail))); refine wpQuiet_nil ?_; clear hcq; rintro w' ⟨⟨w', hb⟩, rfl⟩; (try dsimp only); have hc := hb.cells; have hf := hb.frozens; have hz := hb.size; (try simp at hz); (try have hz0 : w.heap.size < w'.heap.size := (by omega)); (try have hz1 : w.heap.size + 1 < w'.heap.size := (by omega)); (try have hz2 : w.heap.size + 2 < w'.heap.size := (by omega)); (try have hz3 : w.heap.size + 3 < w'.heap.size := (by omega)); (try have hz4 : w.heap.size + 4 < w'.heap.size := (by omega)); (try have hz5 : w.heap.size + 5 < w'.heap.size := (by omega)))
      go_roundw
      case rel => exact ⟨k + 1, by go_num, by omega, by (repeat (first | with_reducible exact Gw.refl _ | with_reducible assumption | ((with_reducible refine Gw.set ?_ ?_ _); rotate_left; (focus (first | (simp; done) | (simp; omega) | omega))) | with_reducible refine Gw.alloc ?_ _ | with_reducible refine Gw.drew ?_ | with_reducible refine Gw.drewN ?_ _ | (refine Gw.trans ?_ (by with_reducible assumption))))⟩
      case measure => simp [intOf]; omega
    · go_wp2
      go_ret
      exact ⟨rfl, by (repeat (first | with_reducible exact Gw.refl _ | with_reducible assumption | ((with_reducible refine Gw.set ?_ ?_ _); rotate_left; (focus (first | (simp; done) | (simp; omega) | omega))) | with_reducible refine Gw.alloc ?_ _ | with_reducible refine Gw.drew ?_ | with_reducible refine Gw.drewN ?_ _ | (refine Gw.trans ?_ (by with_reducible assumption))))⟩

set_option maxHeartbeats 1000000 in
theorem l_markIntS (A : Option Addr) (n c base : Nat) (xs : List Value) (k0 : Int) (w : World) (hn : n ≤ 1048576) (hk0 : 0 ≤ k0 ∧ k0 ≤ 100000000) (ho : w.ownsRow base 3 1 (.slice A n c) n xs) :
    Calls Try.prog 16 #[.slice A n c, .int .i64 k0] w fun e w' => e = .returned (.int .i64 (k0 + (n : Int))) ∧
      w'.ownsRow base 3 1 (.slice A n c) n (marks k0 (n * 1)) ∧ w.grownBy w' (Value.slice A n c).ownBlock := by
  have hZ : Hid (xs.length = n * 1) := ho.1
  have hlen : Hid ((marks k0 (n * 1)).length = xs.length) := by unfold Hid; rw [hZ.out, marks_len]
  go_enter Try.func16, Try.ntmps16
  go_wp2
  go_loopw [1, 5] (fun q i wr => ∃ k : Nat, i = .int .i64 k ∧ k ≤ n ∧ q = .int .i64 (k0 + (k : Int)) ∧ wr.ownsRow base 3 1 (.slice A n c) n (mix (marks k0 (n * 1)) xs (k)) ∧ w.grownBy wr (Value.slice A n c).ownBlock) (fun _ i _ => n - (intOf i).toNat)
  case atStart => exact ⟨0, by go_num, Nat.zero_le _, by go_num, by rw [show 0 = 0 from rfl, mix_zero]; exact ho, World.grownBy.refl w _⟩
  case round =>
    obtain ⟨k, rfl, hk, rfl, hown, hgw⟩ := hrel
    clear ho
    by_cases hlt : k < n
    · obtain ⟨g, rfl, hbg, hg⟩ := own_addr hown (by omega)
      have f0 : Hid ((marks k0 (n * 1))[k]? = some (.int .i64 (k0 + (k : Int)))) := by unfold Hid; rw [marks_get (by omega)]; try (first | (simp; done) | (simp; omega))
      obtain ⟨u0, e0⟩ := own_cell hown (j := k) (by omega); have fz0 := World.ownsRow.frozenAt hown (k)
      go_wp2
      have r0 := own_fill (m := k) hown hlen.out f0.out
      have hgw' : w.grownBy wr (some g) := hgw
      have q0 := grownBy_trans hgw' r0.2
      go_roundw
      case rel => exact ⟨k + 1, by go_num, by omega, by go_num, by rw [show k + 1 = k + 1 by omega]; exact r0.1, q0⟩
      case measure => simp [intOf]; omega
    · obtain rfl : k = n := by omega
      go_wp2
      go_ret
      have hfin := hown
      rw [mix_all hlen.out (by rw [hZ.out]; omega)] at hfin
      exact ⟨rfl, hfin, hgw⟩

set_option maxHeartbeats 1000000 in
theorem l_heldIntS (A : Option Addr) (n c base : Nat) (k0 : Int) (w : World) (hn : n ≤ 1048576) (hk0 : 0 ≤ k0 ∧ k0 ≤ 100000000) (ho : w.ownsRow base 3 1 (.slice A n c) n (marks k0 (n * 1))) :
    Calls Try.prog 17 #[.slice A n c, .int .i64 k0] w fun e w' => e = .returned (.int .i64 (k0 + (n : Int))) ∧ w = w' := by
  go_enter Try.func17, Try.ntmps17
  go_wp2
  go_loop [1, 5] (fun q i => ∃ k : Nat, i = .int .i64 k ∧ k ≤ n ∧ q = .int .i64 (k0 + (k : Int))) (fun _ i => n - (intOf i).toNat)
  case atStart => exact ⟨0, by go_num, Nat.zero_le _, by go_num⟩
  case round =>
    obtain ⟨k, rfl, hk, rfl⟩ := hrel
    by_cases hlt : k < n
    · obtain ⟨g, rfl, hbg, hg⟩ := own_addr ho (by omega)
      have c0 : w.cell? ⟨g, k, none⟩ = some (.int .i64 (k0 + (k : Int))) := by rw [World.ownsRow.cellAt ho _ (by omega), marks_get (by omega)]; try (first | (simp; done) | (simp; omega))
      clear ho
      go_wp2
      go_round
      case rel => exact ⟨k + 1, by go_num, by omega, by go_num⟩
      case measure => simp [intOf]; omega
    · obtain rfl : k = n := by omega
      go_wp2
      go_ret
      exact ⟨rfl, rfl⟩

end Go.Proofs.Ytipndibiioajmaa
