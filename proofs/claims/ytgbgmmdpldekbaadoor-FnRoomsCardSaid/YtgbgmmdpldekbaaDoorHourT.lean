/-
  The reference's table of hours, laid.
-/
import Derived.Test.YtgbgmmdpldekbaaDoorHourS
namespace Go.Proofs.YtgbgmmdpldekbaaDoor
open Go.RowKit

theorem tabOf_open {W : List W3} {p h : Nat} : tabOf W p h = true ↔ openP W (p : Int) (h : Int) := by
  unfold tabOf openP
  rw [List.any_eq_true]
  simp only [decide_eq_true_eq]
def rowTo (T : Nat → Nat → Bool) (k h : Nat) : Nat → Nat → Bool := fun p j => if p = k then (decide (j < h) && T k j) else T p j

set_option maxHeartbeats 4000000 in
set_option maxRecDepth 20000 in
theorem s_wnHours (A : Option Addr) (c : Nat) (W : List W3) (w : World) (hl : W.length ≤ 1048576) (hA : Rd w A W) (hW : WinsP W) :
    Calls Tryd.prog 74 #[.slice A W.length c] w fun e w' => e = .returned (.slice (some ⟨w.heap.size, 0, none⟩) 10 10) ∧ (∃ B, TabK w' w.heap.size w.heap.size B (tabOf W) 10) ∧ Gw w w' := by
  have HA := Lib.hid hA
  have HW := Lib.hid hW
  clear hA hW
  have HZ := Lib.hid (TabK.start w (tabOf W))
  have iR : (Tryd.prog.info? 107).map (fun i => (i.zero, i.size, i.bytes)) = some (some (.slice none 0 0), 1, 24) := by kernel_rfl
  have iB : (Tryd.prog.info? 4).map (fun i => (i.zero, i.size, i.bytes)) = some (some (.bool false), 1, 1) := by kernel_rfl
  go_enter Tryd.func74, Tryd.ntmps74
  go_wp2_with (at_make; refine wpList_makeR _ rfl _ _ 105 rfl 107 _ 24 Tryd.underlying105 iR rfl 10 10 rfl rfl rfl (by omega) (by omega) ?_)
  go_loopw [4, 5, 9, 21] (fun _ _ q _ wr => ∃ (k : Nat) (B : Nat → Nat), q = .int .i64 k ∧ k ≤ 10 ∧ TabK wr w.heap.size w.heap.size B (tabOf W) k ∧ Gw w wr) (fun _ _ q _ _ => 10 - (intOf q).toNat)
  case atStart => exact ⟨0, fun _ => 0, by go_num, by omega, HZ.out, (Gw.refl _).alloc _⟩
  case round =>
    obtain ⟨wo, rfl⟩ : ∃ wo : World, wo = wr := ⟨_, rfl⟩
    obtain ⟨k, B, rfl, hk, htab, hgw⟩ := hrel
    by_cases hlt : k < 10
    · have hkz : (k : Int) < 10 := by omega
      have hglt := htab.lt
      have hc := (htab.gw ((Gw.refl wo).alloc (.cells (madeCells #[.bool false] 168) 4))).cell' (Nat.le_refl k) hlt
      have hf := (htab.gw ((Gw.refl wo).alloc (.cells (madeCells #[.bool false] 168) 4))).free k
      have hpush := TabK.push htab hlt ((Gw.refl wo).alloc (.cells (madeCells #[.bool false] 168) 4)) (Nat.le_refl _) (RowB.new wo)
      have hgp : Gw w ((wo.alloc (.cells (madeCells #[.bool false] 168) 4)).setCell ⟨w.heap.size, k, none⟩ (.slice (some ⟨wo.heap.size, 0, none⟩) 168 168)) := (hgw.alloc _).set (Nat.le_refl _) _
      rw [World.setCell_alloc_past _ _ _ _ hglt] at hpush hgp
      have hcx := hpush.cell (Nat.lt_succ_self k) hlt
      rw [if_pos rfl] at hcx
      have Hpush := Lib.hid hpush
      clear hpush htab
      go_wp2_with (first | (at_make; refine wpList_makeR _ rfl _ _ 107 rfl 4 _ 1 Tryd.underlying107 iB rfl 168 168 rfl rfl rfl (by omega) (by omega) ?_))
      go_loopw [5, 21] (fun _ q w3 => ∃ (h : Nat), q = .int .i64 h ∧ h ≤ 168 ∧ TabK w3 w.heap.size w.heap.size (fun p => if p = k then wo.heap.size else B p) (rowTo (tabOf W) k h) (k + 1) ∧ Gw w w3) (fun _ q _ => 168 - (intOf q).toNat)
      case atStart =>
        refine ⟨0, by go_num, by omega, Hpush.out.ext (fun p hp j hj => ?_), hgp⟩
        unfold rowTo
        by_cases e : p = k
        · simp [e]
        · simp [e]
      case round =>
        obtain ⟨h, rfl, hh, htab, hgw2⟩ := hrel
        by_cases hlt2 : h < 168
        · have hhz : (h : Int) < 168 := by omega
          have hcg := htab.cell (Nat.lt_succ_self k) hlt
          have hrow := htab.row (Nat.lt_succ_self k)
          rw [if_pos rfl] at hcg
          rw [if_pos rfl] at hrow
          have hgl := htab.lt
          have hbl := hrow.lt
          have hne : ¬(w.heap.size = wo.heap.size) := by omega
          have hks : ∀ u, Gw wr u → u.cell? ⟨w.heap.size, k, none⟩ = some (.slice (some ⟨wo.heap.size, 0, none⟩) 168 168) := fun u hu => by rw [hu.cells _ _ hgl]; exact hcg
          have hvs : ∀ u, Gw wr u → u.cell? ⟨wo.heap.size, h, none⟩ = some (.bool (rowTo (tabOf W) k h k h)) ∧ u.frozen? ⟨wo.heap.size, h, none⟩ = false := fun u hu => ⟨(hrow.gw hu).cell hlt2, (hrow.gw hu).free h⟩
          have Hks := Lib.hid hks
          have Hvs := Lib.hid hvs
          have Hrow := Lib.hid hrow
          have Htab := Lib.hid htab
          have HA2 := Lib.hid (HA.out.gw hgw2)
          have hop := tabOf_open (W := W) (p := k) (h := h)
          obtain ⟨bk, hbk⟩ : ∃ b, Hid (tabOf W k h = b) := ⟨_, rfl⟩
          rw [hbk.out] at hop
          have Hop := Lib.hid hop
          have hput : ∀ u, Gw wr u → TabK (u.setCell ⟨wo.heap.size, h, none⟩ (.bool bk)) w.heap.size w.heap.size (fun p => if p = k then wo.heap.size else B p) (rowTo (tabOf W) k (h + 1)) (k + 1) ∧ Gw w (u.setCell ⟨wo.heap.size, h, none⟩ (.bool bk)) := fun u hu => by
            refine ⟨((Htab.out.gw hu).putAt (Nat.lt_succ_self k) hlt2 bk (if_pos rfl)).ext (fun p hp j hj => ?_), (Gw.trans hgw2 hu).set (show w.heap.size ≤ wo.heap.size by omega) _⟩
            unfold rowTo
            by_cases e : p = k
            · subst e
              by_cases e2 : j = h
              · subst e2
                simp [hbk.out]
              · have : (j < h + 1) = (j < h) := by apply propext; omega
                simp [e2, this]
            · simp [e]
          have Hput := Lib.hid hput
          clear hks hvs hrow htab hop hcg hput
          go_wp2_with fail
          go_region_held3 (fun u => u.cell? ⟨w.heap.size, k, none⟩ = some (.slice (some ⟨wo.heap.size, 0, none⟩) 168 168)) (first | with_reducible assumption | exact Hks.out _ (by (repeat (first | with_reducible exact Gw.refl _ | with_reducible assumption | ((with_reducible refine Gw.set ?_ ?_ _); rotate_left; (focus (first | (simp; done) | (simp; omega) | omega))) | with_reducible refine Gw.alloc ?_ _ | with_reducible refine Gw.drew ?_ | with_reducible refine Gw.drewN ?_ _ | (refine Gw.trans ?_ (by with_reducible assumption))))) | go_keep)
            (first
              | (go_at_call 70; refine ((s_wnOpen _ _ _ _ _ _ hl (HA2.out.gw (by (repeat (first | with_reducible exact Gw.refl _ | with_reducible assumption | ((with_reducible refine Gw.set ?_ ?_ _); rotate_left; (focus (first | (simp; done) | (simp; omega) | omega))) | with_reducible refine Gw.alloc ?_ _ | with_reducible refine Gw.drew ?_ | with_reducible refine Gw.drewN ?_ _ | (refine Gw.trans ?_ (by with_reducible assumption)))))) HW.out.1).mono (tells_bool Hop.out)).mono ?_; rintro e w5 ⟨rfl, hb5⟩; have hgB : Gw wr w5 := Gw.trans (by (repeat (first | with_reducible exact Gw.refl _ | with_reducible assumption | ((with_reducible refine Gw.set ?_ ?_ _); rotate_left; (focus (first | (simp; done) | (simp; omega) | omega))) | with_reducible refine Gw.alloc ?_ _ | with_reducible refine Gw.drew ?_ | with_reducible refine Gw.drewN ?_ _ | (refine Gw.trans ?_ (by with_reducible assumption))))) hb5; obtain ⟨hx1, hx2⟩ := Hvs.out w5 hgB; obtain ⟨hp1, hp2⟩ := Hput.out w5 hgB; have hx3 := hp1.cell (Nat.lt_succ_self k) hlt; rw [if_pos rfl] at hx3; have Hp1 := Lib.hid hp1; clear hp1)
              | fail)
          all_goals
            go_wp2_with fail
            go_roundw
            case rel => exact ⟨h + 1, by go_num, by omega, Hp1.out, hp2⟩
            case measure => simp [intOf]; omega
        · obtain rfl : h = 168 := by omega
          go_wp2_with fail
          go_roundw
          case rel =>
            refine ⟨k + 1, (fun p => if p = k then wo.heap.size else B p), by go_num, by omega, htab.ext (fun p hp j hj => ?_), hgw2⟩
            unfold rowTo
            by_cases e : p = k
            · simp [e, hj]
            · simp [e]
          case measure => simp [intOf]; omega
    · obtain rfl : k = 10 := by omega
      go_wp2_with fail
      go_ret
      exact ⟨rfl, ⟨B, htab⟩, hgw⟩
end Go.Proofs.YtgbgmmdpldekbaaDoor
