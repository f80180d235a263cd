/-
  The reference's text of edits.
-/
import Derived.Test.YtoofpajeogllhaaDoorTextE
namespace Go.Proofs.YtoofpajeogllhaaDoor
open Go.RowKit
set_option maxHeartbeats 8000000 in
set_option maxRecDepth 20000 in
theorem s_edText (A : Option Addr) (cA : Nat) (W : List Ed6) (w : World) (hl : W.length ≤ 30) (hA : Rd w A W) (hP : ∀ x ∈ W, EdR x) :
    Calls Tryd.prog 10 #[.slice A W.length cA] w fun e w' => e = .returned (.string (cat lineE W)) ∧ Gw w w' := by
  have HA := Lib.hid hA
  have HW := Lib.hid hP
  have HL := Lib.hid hl
  clear hA hP
  go_enter Tryd.func10, Tryd.ntmps10
  go_wp2_with fail
  go_loopw [3, 8] (fun tq q wr => ∃ (k : Nat) (s : ByteArray), q = .int .i64 k ∧ tq = .string s ∧ k ≤ W.length ∧ Hid (s = cat lineE (W.take k)) ∧ Gw w wr) (fun _ q _ => W.length - (intOf q).toNat)
  case atStart => exact ⟨0, ⟨#[]⟩, by go_num, rfl, Nat.zero_le _, rfl, by (repeat (first | with_reducible exact Gw.refl _ | with_reducible assumption | ((with_reducible refine Gw.set ?_ ?_ _); rotate_left; (focus (first | (simp; done) | (simp; omega) | omega))) | with_reducible refine Gw.alloc ?_ _ | with_reducible refine Gw.drew ?_ | with_reducible refine Gw.drewN ?_ _ | (refine Gw.trans ?_ (by with_reducible assumption))))⟩
  case round =>
    obtain ⟨k, s, rfl, rfl, hk, hs, hgw⟩ := hrel
    by_cases hlt : k < W.length
    · obtain ⟨x, hx⟩ := get_of_lt hlt
      obtain ⟨b, off, rfl, hb, c0, c1, c2, c3, c4, c5⟩ := (HA.out.gw hgw).get6 hx
      have hq := HW.out x (mem_of_get hx)
      have hsz : (cat lineE (W.take k)).size ≤ 80 * k := cat_size (fun y hy => lineE_size (HW.out y hy)) k
      rw [← hs.out] at hsz
      have Hx := Lib.hid (cat_take (f := lineE) hx)
      obtain ⟨x0, x1, x2, x3, x4, x5⟩ := x
      clear hx
      dsimp only [EdR] at hq c0 c1 c2 c3 c4 c5
      have hl20 := HL.out
      have hn0 := numS_size (n := x0) (by omega) (by omega)
      have hn1 := numS_size (n := x1) (by omega) (by omega)
      have hs0 := spotS_size hq.2.2.1
      have hs1 := spotS_size hq.2.2.2
      have hp0 : ¬9223372036854775807 < (numS x0).size + 1 := by omega
      have hp1 : ¬9223372036854775807 < (numS x0).size + 1 + (numS x1).size := by omega
      have hp2 : ¬9223372036854775807 < (numS x0).size + 1 + (numS x1).size + 1 := by omega
      have hp3 : ¬9223372036854775807 < (numS x0).size + 1 + (numS x1).size + 1 + (spotS x2 x3).size := by omega
      have hp4 : ¬9223372036854775807 < (numS x0).size + 1 + (numS x1).size + 1 + (spotS x2 x3).size + 1 := by omega
      have hp5 : ¬9223372036854775807 < (numS x0).size + 1 + (numS x1).size + 1 + (spotS x2 x3).size + 1 + (spotS x4 x5).size := by omega
      have hp6 : ¬9223372036854775807 < (numS x0).size + 1 + (numS x1).size + 1 + (spotS x2 x3).size + 1 + (spotS x4 x5).size + 1 := by omega
      have hpz : ¬9223372036854775807 < s.size + ((numS x0).size + 1 + (numS x1).size + 1 + (spotS x2 x3).size + 1 + (spotS x4 x5).size + 1) := by omega
      have HQ := Lib.hid hq
      have hr0 : 0 ≤ x0 ∧ x0 ≤ 999 := hq.1
      have hr1 : 0 ≤ x1 ∧ x1 ≤ 999 := hq.2.1
      have hl0 : x0 < ((1000000 : Nat) : Int) + 10 ∧ x1 < ((1000000 : Nat) : Int) + 10 := by omega
      clear hsz hq hn0 hn1 hs0 hs1
      go_wp2_with ((with_reducible refine wp_region_gw (by kernel_rfl) (by kernel_rfl) ?_); have hcq := @GwOf.cell; (repeat (go_big_quiet_step (first | (go_at_call 19; exact GwOf.call (s_l1Num 1000000 _ (by omega) (by omega) (by omega) _)) | (go_at_call 20; refine GwOf.call (s_stText _ _ ?_ _); first | exact HQ.out.2.2.1 | exact HQ.out.2.2.2)))); refine wpQuiet_nil ?_; clear hcq; rintro w' ⟨⟨w', hb⟩, rfl⟩; (try dsimp only); have hc := hb.cells; have hf := hb.frozens; have hz := hb.size; (try simp at hz); (try have hz0 : w.heap.size < w'.heap.size := (by omega)); (try have hz1 : w.heap.size + 1 < w'.heap.size := (by omega)); (try have hz2 : w.heap.size + 2 < w'.heap.size := (by omega)); (try have hz3 : w.heap.size + 3 < w'.heap.size := (by omega)); (try have hz4 : w.heap.size + 4 < w'.heap.size := (by omega)); (try have hz5 : w.heap.size + 5 < w'.heap.size := (by omega)))
      go_roundw
      case rel => exact ⟨k + 1, _, by go_num, rfl, by omega, by unfold Hid; rw [Hx.out, ← hs.out]; rfl, by (repeat (first | with_reducible exact Gw.refl _ | with_reducible assumption | ((with_reducible refine Gw.set ?_ ?_ _); rotate_left; (focus (first | (simp; done) | (simp; omega) | omega))) | with_reducible refine Gw.alloc ?_ _ | with_reducible refine Gw.drew ?_ | with_reducible refine Gw.drewN ?_ _ | (refine Gw.trans ?_ (by with_reducible assumption))))⟩
      case measure => simp [intOf] <;> omega
    · obtain rfl : k = W.length := by omega
      rw [List.take_length] at hs
      have hs' := hs.out
      subst hs'
      go_wp2_with fail
      go_ret
      exact ⟨rfl, hgw⟩

set_option maxHeartbeats 4000000 in
theorem s_EditsText (A : Option Addr) (cA : Nat) (W : List Ed6) (w : World) (hl : W.length ≤ 1048576) (hA : Rd w A W) (_hc : W.length ≤ cA) (_ht : TabP w) :
    Calls Tryd.prog 5 #[.slice A W.length cA] w fun e w' => e = .returned (.tuple #[.string (etxF W).1, .bool (etxF W).2]) ∧ Gw w w' := by
  go_enter Tryd.func5, Tryd.ntmps5
  go_wp2_with fail
  refine (s_edAll _ _ _ _ hl hA).mono ?_
  rintro _ w1 (⟨hp, rfl, hb1⟩ | ⟨hp, rfl, hb1⟩)
  case inr =>
    have hno := Lib.hid (etxF_bad hp)
    clear hp
    go_wp2_with fail
    go_ret2
    exact ⟨ret_sb hno.out, by (repeat (first | with_reducible exact Gw.refl _ | with_reducible assumption | ((with_reducible refine Gw.set ?_ ?_ _); rotate_left; (focus (first | (simp; done) | (simp; omega) | omega))) | with_reducible refine Gw.alloc ?_ _ | with_reducible refine Gw.drew ?_ | with_reducible refine Gw.drewN ?_ _ | (refine Gw.trans ?_ (by with_reducible assumption))))⟩
  have HF := Lib.hid (etxF_ok hp)
  have HW := Lib.hid (etxF_line hp)
  have HL : Hid (W.length ≤ 30) := hp.2
  clear hp
  go_wp2_with fail
  refine (s_edText _ _ _ _ HL.out (hA.gw (by (repeat (first | with_reducible exact Gw.refl _ | with_reducible assumption | ((with_reducible refine Gw.set ?_ ?_ _); rotate_left; (focus (first | (simp; done) | (simp; omega) | omega))) | with_reducible refine Gw.alloc ?_ _ | with_reducible refine Gw.drew ?_ | with_reducible refine Gw.drewN ?_ _ | (refine Gw.trans ?_ (by with_reducible assumption)))))) HW.out).mono ?_
  rintro _ w2 ⟨rfl, hb2⟩
  go_wp2_with fail
  go_ret2
  exact ⟨ret_sb HF.out, by (repeat (first | with_reducible exact Gw.refl _ | with_reducible assumption | ((with_reducible refine Gw.set ?_ ?_ _); rotate_left; (focus (first | (simp; done) | (simp; omega) | omega))) | with_reducible refine Gw.alloc ?_ _ | with_reducible refine Gw.drew ?_ | with_reducible refine Gw.drewN ?_ _ | (refine Gw.trans ?_ (by with_reducible assumption))))⟩
end Go.Proofs.YtoofpajeogllhaaDoor
