/-
  Edits run, also those of no performer.
-/
import Derived.Test.YtoofpajeogllhaaRun
namespace Go.Proofs.Ytoofpajeogllhaa
open Go.RowKit

set_option maxHeartbeats 4000000 in
set_option maxRecDepth 100000 in
theorem s_edRunD (A : Option Addr) (cap : Nat) (l : List (Int × Int)) (B : Option Addr) (cap2 : Nat) (es : List (Int × Int × Int × Int × Int × Int)) (w : World) (hl : l.length ≤ 1048576) (hA : Rd w A l) (hne : l ≠ []) (hl2 : es.length ≤ 1048576) (hB : Rd w B es) :
    Calls Try.prog 39 #[.slice A l.length cap, .slice B es.length cap2] w fun e' w' => ∃ A c, e' = .returned (.tuple #[.slice A l.length c, .int .i64 (runF l es 0).2]) ∧
      w'.ownsRow w.heap.size 26 2 (.slice A l.length c) l.length (flat (runF l es 0).1) ∧ Gw w w' := by
  have Hne := Lib.hid hne
  clear hne
  go_enter Try.func39, Try.ntmps39
  go_wp2_with (go_at_call 40; refine (s_chOwn _ _ _ l _ rfl hl hA Hne.out).mono ?_; rintro _ w4 ⟨A', c', rfl, hown, hG4⟩)
  obtain ⟨L, hL⟩ : ∃ L, l.length = L := ⟨_, rfl⟩
  have HL := Lib.hid hL
  rw [hL] at hown hl ⊢
  clear hL
  go_loopw [6, 15] (fun o i wr => ∃ (k : Nat) (cur : List (Int × Int)) (C : Option Addr) (c : Nat), i = .int .i64 k ∧ k ≤ es.length ∧ o = .slice C L c ∧ Hid (cur.length = L) ∧ wr.ownsRow w.heap.size 26 2 (.slice C L c) L (flat cur) ∧ Hid (runF cur (es.drop k) k = runF l es 0) ∧ Gw w wr) (fun _ i _ => es.length - (intOf i).toNat)
  case atStart => exact ⟨0, l, A', c', by go_num, Nat.zero_le _, rfl, HL, hown, by unfold Hid; simp, hG4⟩
  case round =>
    clear hown
    obtain ⟨k, cur, C, c', rfl, hk, rfl, hcl, hown, hq, hgw⟩ := hrel
    by_cases hlt : k < es.length
    · obtain ⟨x, hx⟩ := get_of_lt hlt
      obtain ⟨x0, xp, y1, y2, z1, z2⟩ := x
      obtain ⟨b, off, rfl, hb, c0, c1, c2, c3, c4, c5⟩ := (hB.gw hgw).get6 hx
      dsimp only at c0 c1 c2 c3 c4 c5
      have hd := Lib.hid (drop_of' hx)
      clear hx
      have hrd : Rd wr C cur := own_rd (by rw [hcl.out]; exact hown)
      by_cases hF : FitP cur xp y1 y2 z1 z2
      · obtain ⟨m, rfl⟩ : ∃ m : Nat, xp = (m : Int) := ⟨xp.toNat, by have := hF.1; omega⟩
        have HF := Lib.hid hF
        clear hF
        have hv : Hid (moveF cur m y1 y2 z1 z2 = (cur.set m (z1, z2), true)) := by unfold Hid moveF; rw [if_pos HF.out]; simp
        have hn' : Hid (runF (cur.set m (z1, z2)) (es.drop (k + 1)) (k + 1) = runF l es 0) := by unfold Hid; rw [← hq.out, hd.out, runF_yes HF.out]; simp
        have hsl : Hid ((cur.set m (z1, z2)).length = L) := by unfold Hid; rw [List.length_set]; exact hcl.out
        go_wp2_with fail
        refine (s_edApply' _ _ _ cur _ _ _ _ _ _ _ hcl.out hl (hrd.gw (by (repeat (first | with_reducible exact Gw.refl _ | with_reducible assumption | ((with_reducible refine Gw.set ?_ ?_ _); rotate_left; (focus (first | (simp; done) | (simp; omega) | omega))) | with_reducible refine Gw.alloc ?_ _ | with_reducible refine Gw.drew ?_ | with_reducible refine Gw.drewN ?_ _ | (refine Gw.trans ?_ (by with_reducible assumption))))))).mono ?_
        rw [hv.out]
        dsimp only
        rw [hsl.out]
        rintro _ w2 ⟨A2, c2, rfl, hown2, hb2⟩
        have hG2 : Gw wr w2 := by (repeat (first | with_reducible exact Gw.refl _ | with_reducible assumption | ((with_reducible refine Gw.set ?_ ?_ _); rotate_left; (focus (first | (simp; done) | (simp; omega) | omega))) | with_reducible refine Gw.alloc ?_ _ | with_reducible refine Gw.drew ?_ | with_reducible refine Gw.drewN ?_ _ | (refine Gw.trans ?_ (by with_reducible assumption))))
        go_wp2_with fail
        go_roundw
        case rel => exact ⟨k + 1, cur.set m (z1, z2), A2, c2, by go_num, by omega, rfl, hsl, own_lower hown2 (by have := hgw.size; simp; omega), hn', Gw.trans hgw hG2⟩
        case measure => simp [intOf]; omega
      · have HF := Lib.hid hF
        clear hF
        have hv : Hid (moveF cur xp y1 y2 z1 z2 = ([], false)) := by unfold Hid moveF; rw [if_neg HF.out]
        have hfin : Hid (runF l es 0 = (cur, k)) := by unfold Hid; rw [← hq.out, hd.out, runF_no HF.out]
        go_wp2_with fail
        refine (s_edApply' _ _ _ cur _ _ _ _ _ _ _ hcl.out hl (hrd.gw (by (repeat (first | with_reducible exact Gw.refl _ | with_reducible assumption | ((with_reducible refine Gw.set ?_ ?_ _); rotate_left; (focus (first | (simp; done) | (simp; omega) | omega))) | with_reducible refine Gw.alloc ?_ _ | with_reducible refine Gw.drew ?_ | with_reducible refine Gw.drewN ?_ _ | (refine Gw.trans ?_ (by with_reducible assumption))))))).mono ?_
        rw [hv.out]
        dsimp only
        rintro _ w2 ⟨A2, c2, rfl, hown2, hb2⟩
        have hG2 : Gw wr w2 := by (repeat (first | with_reducible exact Gw.refl _ | with_reducible assumption | ((with_reducible refine Gw.set ?_ ?_ _); rotate_left; (focus (first | (simp; done) | (simp; omega) | omega))) | with_reducible refine Gw.alloc ?_ _ | with_reducible refine Gw.drew ?_ | with_reducible refine Gw.drewN ?_ _ | (refine Gw.trans ?_ (by with_reducible assumption))))
        have hown3 := own_gw hown hG2
        go_wp2_with fail
        go_ret2
        exact ⟨C, c', by rw [hfin.out, HL.out]; rfl, by rw [hfin.out, HL.out]; exact hown3, Gw.trans hgw hG2⟩
    · have hfin : Hid (runF l es 0 = (cur, k)) := by unfold Hid; rw [← hq.out, drop_all hlt]; rfl
      obtain rfl : k = es.length := by omega
      go_wp2_with fail
      go_ret2
      exact ⟨C, c', by rw [hfin.out, HL.out]; rfl, by rw [hfin.out, HL.out]; exact hown, by (repeat (first | with_reducible exact Gw.refl _ | with_reducible assumption | ((with_reducible refine Gw.set ?_ ?_ _); rotate_left; (focus (first | (simp; done) | (simp; omega) | omega))) | with_reducible refine Gw.alloc ?_ _ | with_reducible refine Gw.drew ?_ | with_reducible refine Gw.drewN ?_ _ | (refine Gw.trans ?_ (by with_reducible assumption))))⟩
end Go.Proofs.Ytoofpajeogllhaa
