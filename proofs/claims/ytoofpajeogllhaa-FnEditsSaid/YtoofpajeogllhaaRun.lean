/-
  Edits applied one after the other.
-/
import Derived.Test.YtoofpajeogllhaaApply
namespace Go.Proofs.Ytoofpajeogllhaa
open Go.RowKit

open Classical in
noncomputable def runF : List (Int × Int) → List (Int × Int × Int × Int × Int × Int) → Nat → List (Int × Int) × Nat
  | cur, [], n => (cur, n)
  | cur, x :: r, n => if FitP cur x.2.1 x.2.2.1 x.2.2.2.1 x.2.2.2.2.1 x.2.2.2.2.2 then runF (cur.set x.2.1.toNat (x.2.2.2.2.1, x.2.2.2.2.2)) r (n + 1) else (cur, n)
theorem runF_yes {cur : List (Int × Int)} {x : (Int × Int × Int × Int × Int × Int)} {r : List (Int × Int × Int × Int × Int × Int)} {n : Nat} (h : FitP cur x.2.1 x.2.2.1 x.2.2.2.1 x.2.2.2.2.1 x.2.2.2.2.2) : runF cur (x :: r) n = runF (cur.set x.2.1.toNat (x.2.2.2.2.1, x.2.2.2.2.2)) r (n + 1) := by
  rw [runF, if_pos h]
theorem runF_no {cur : List (Int × Int)} {x : (Int × Int × Int × Int × Int × Int)} {r : List (Int × Int × Int × Int × Int × Int)} {n : Nat} (h : ¬FitP cur x.2.1 x.2.2.1 x.2.2.2.1 x.2.2.2.2.1 x.2.2.2.2.2) : runF cur (x :: r) n = (cur, n) := by
  rw [runF, if_neg h]
theorem runF_len (es : List (Int × Int × Int × Int × Int × Int)) : ∀ (cur : List (Int × Int)) (n : Nat), (runF cur es n).1.length = cur.length := by
  induction es with
  | nil => intro cur n; rfl
  | cons x r ih =>
    intro cur n
    by_cases h : FitP cur x.2.1 x.2.2.1 x.2.2.2.1 x.2.2.2.2.1 x.2.2.2.2.2
    · rw [runF_yes h, ih]; simp
    · rw [runF_no h]
theorem drop_all {α : Type} {l : List α} {k : Nat} (h : ¬k < l.length) : l.drop k = [] := List.drop_of_length_le (by omega)

theorem i_fits' (A : Option Addr) (cap n : Nat) (l : List (Int × Int)) (e p b1 b2 a1 a2 : Int) (w : World) (hn : l.length = n) (hl : n ≤ 1048576) (hA : Rd w A l) (hp : 0 ≤ p) :
    Calls Try.prog 27 #[.slice A n cap, .agg #[.int .i64 e, .int .i64 p, .int .i64 b1, .int .i64 b2, .int .i64 a1, .int .i64 a2]] w (Tells (FitP l p b1 b2 a1 a2) w) := by
  subst hn; exact i_fits _ _ _ _ _ _ _ _ _ _ hl hA hp
theorem s_edApply' (A : Option Addr) (cap n : Nat) (l : List (Int × Int)) (e p b1 b2 a1 a2 : Int) (w : World) (hn : l.length = n) (hl : n ≤ 1048576) (hA : Rd w A l) :
    Calls Try.prog 30 #[.slice A n cap, .agg #[.int .i64 e, .int .i64 p, .int .i64 b1, .int .i64 b2, .int .i64 a1, .int .i64 a2]] w fun e' w' => ∃ A c, e' = .returned (.tuple #[.slice A (moveF l p b1 b2 a1 a2).1.length c, .bool (moveF l p b1 b2 a1 a2).2]) ∧
      w'.ownsRow w.heap.size 26 2 (.slice A (moveF l p b1 b2 a1 a2).1.length c) (moveF l p b1 b2 a1 a2).1.length (flat (moveF l p b1 b2 a1 a2).1) ∧ Gw w w' := by
  subst hn; exact s_edApply _ _ _ _ _ _ _ _ _ _ hl hA

set_option maxHeartbeats 4000000 in
set_option maxRecDepth 100000 in
theorem i_applyEdits (A : Option Addr) (cap : Nat) (l : List (Int × Int)) (B : Option Addr) (cap2 : Nat) (es : List (Int × Int × Int × Int × Int × Int)) (w : World) (hl : l.length ≤ 1048576) (hA : Rd w A l) (hne : l ≠ []) (hl2 : es.length ≤ 1048576) (hB : Rd w B es) (hE : ∀ x ∈ es, 0 ≤ x.2.1) :
    Calls Try.prog 37 #[.slice A l.length cap, .slice B es.length cap2] w fun e' w' => ∃ A c, e' = .returned (.tuple #[.slice A l.length c, .int .i64 (runF l es 0).2]) ∧
      w'.ownsRow w.heap.size 26 2 (.slice A l.length c) l.length (flat (runF l es 0).1) ∧ Gw w w' := by
  obtain ⟨i0, hi, hzz0, hzz1, hzz2⟩ := info_parts infoSpot
  have Hne := Lib.hid hne
  have HE := Lib.hid hE
  clear hne hE
  have hpos : 0 < l.length := List.length_pos_iff.2 Hne.out
  go_enter Try.func37, Try.ntmps37
  go_wp2_with (at_builtin; refine wpList_cat (α := (Int × Int)) rfl (.tmp 9) (.tmp 10) 24 rfl w.heap.size 26 i0 _ 16 Try.underlying24 hi hzz0 hzz1 hzz2 rfl (by omega) [] (some ⟨w.heap.size, 0, none⟩) 0 rfl l A cap rfl (hA.gw (by (repeat (first | with_reducible exact Gw.refl _ | with_reducible assumption | ((with_reducible refine Gw.set ?_ ?_ _); rotate_left; (focus (first | (simp; done) | (simp; omega) | omega))) | with_reducible refine Gw.alloc ?_ _ | with_reducible refine Gw.drew ?_ | with_reducible refine Gw.drewN ?_ _ | (refine Gw.trans ?_ (by with_reducible assumption)))))) Hne.out (World.ownsRow_made w #[] 0 (Nat.le_refl _) (by simp [maxLen]) (by simp)) (by simp) hl (by simp) ?_; intro acc' A' c' w4 hacc' hl1 hown hgr hgg; have he : l = acc' := (by rw [hacc'.out, List.nil_append]); subst he; have hG4 : Gw w w4 := hgg w (by (repeat (first | with_reducible exact Gw.refl _ | with_reducible assumption | ((with_reducible refine Gw.set ?_ ?_ _); rotate_left; (focus (first | (simp; done) | (simp; omega) | omega))) | with_reducible refine Gw.alloc ?_ _ | with_reducible refine Gw.drew ?_ | with_reducible refine Gw.drewN ?_ _ | (refine Gw.trans ?_ (by with_reducible assumption))))) (Nat.le_refl _); have hown : w4.ownsRow w.heap.size 26 2 (.slice A' l.length c') l.length (flat l) := hown; clear hgr hgg hacc' hl1; obtain ⟨g, rfl, hbg, hg⟩ := own_addr hown hpos)
  obtain ⟨L, hL⟩ : ∃ L, l.length = L := ⟨_, rfl⟩
  have HL := Lib.hid hL
  rw [hL] at hown hpos hl ⊢
  clear hL
  go_loopw [14] (fun i wr => ∃ (k : Nat) (cur : List (Int × Int)), i = .int .i64 k ∧ k ≤ es.length ∧ Hid (cur.length = L) ∧ wr.ownsRow w.heap.size 26 2 (.slice (some ⟨g, 0, none⟩) L c') L (flat cur) ∧ Hid (runF cur (es.drop k) k = runF l es 0) ∧ Gw w wr) (fun i _ => es.length - (intOf i).toNat)
  case atStart => exact ⟨0, l, by go_num, Nat.zero_le _, HL, hown, by unfold Hid; simp, hG4⟩
  case round =>
    clear hown
    obtain ⟨k, cur, rfl, hk, hcl, hown, hq, hgw⟩ := hrel
    by_cases hlt : k < es.length
    · obtain ⟨x, hx⟩ := get_of_lt hlt
      obtain ⟨x0, xp, y1, y2, z1, z2⟩ := x
      obtain ⟨b, off, rfl, hb, c0, c1, c2, c3, c4, c5⟩ := (hB.gw hgw).get6 hx
      dsimp only at c0 c1 c2 c3 c4 c5
      have h0 : 0 ≤ xp := HE.out _ (mem_of_get hx)
      have hd := Lib.hid (drop_of' hx)
      clear hx
      obtain ⟨m, rfl⟩ : ∃ m : Nat, xp = (m : Int) := ⟨xp.toNat, by omega⟩
      have hrd : Rd wr (some ⟨g, 0, none⟩) cur := own_rd (by rw [hcl.out]; exact hown)
      go_wp2_with fail
      refine (i_fits' _ _ _ cur _ _ _ _ _ _ _ hcl.out hl (hrd.gw (by (repeat (first | with_reducible exact Gw.refl _ | with_reducible assumption | ((with_reducible refine Gw.set ?_ ?_ _); rotate_left; (focus (first | (simp; done) | (simp; omega) | omega))) | with_reducible refine Gw.alloc ?_ _ | with_reducible refine Gw.drew ?_ | with_reducible refine Gw.drewN ?_ _ | (refine Gw.trans ?_ (by with_reducible assumption)))))) h0).mono ?_
      rintro _ w2 (⟨hp, rfl, hb2⟩ | ⟨hp, rfl, hb2⟩)
      · have HF := Lib.hid hp
        have hm : m < L := by have := (List.getElem?_eq_some_iff.1 hp.2.1).1; rw [hcl.out] at this; omega
        clear hp
        have hn' : Hid (runF (cur.set m (z1, z2)) (es.drop (k + 1)) (k + 1) = runF l es 0) := by unfold Hid; rw [← hq.out, hd.out, runF_yes HF.out]; simp
        have hc2 := hb2.cells; have hf2 := hb2.frozens; have hz2 := hb2.size; (try simp at hz2)
        have hy2 : wr.heap.size < w2.heap.size := by omega
        have hG2 : Gw wr w2 := by (repeat (first | with_reducible exact Gw.refl _ | with_reducible assumption | ((with_reducible refine Gw.set ?_ ?_ _); rotate_left; (focus (first | (simp; done) | (simp; omega) | omega))) | with_reducible refine Gw.alloc ?_ _ | with_reducible refine Gw.drew ?_ | with_reducible refine Gw.drewN ?_ _ | (refine Gw.trans ?_ (by with_reducible assumption))))
        have hown2 := own_gw hown hG2
        obtain ⟨u0, n0⟩ := own_cell hown2 (j := m * 2) (by omega); have fz0 := World.ownsRow.frozenAt hown2 (m * 2); obtain ⟨u1, n1⟩ := own_cell hown2 (j := m * 2 + 1) (by omega); have fz1 := World.ownsRow.frozenAt hown2 (m * 2 + 1)
        have r := own_set2 (k := m) hown2 (z1, z2)
        have hlo : w.heap.size ≤ g := hbg
        go_wp2_with fail
        go_roundw
        case rel => exact ⟨k + 1, cur.set m (z1, z2), by go_num, by omega, by unfold Hid; rw [List.length_set]; exact hcl.out, r.1, hn', Gw.grown (Gw.trans hgw hG2) r.2 (fun j hj => by simp at hj; omega)⟩
        case measure => simp [intOf]; omega
      · have HF := Lib.hid hp
        clear hp
        have hfin : Hid (runF l es 0 = (cur, k)) := by unfold Hid; rw [← hq.out, hd.out, runF_no HF.out]
        have hG2 : Gw wr w2 := by (repeat (first | with_reducible exact Gw.refl _ | with_reducible assumption | ((with_reducible refine Gw.set ?_ ?_ _); rotate_left; (focus (first | (simp; done) | (simp; omega) | omega))) | with_reducible refine Gw.alloc ?_ _ | with_reducible refine Gw.drew ?_ | with_reducible refine Gw.drewN ?_ _ | (refine Gw.trans ?_ (by with_reducible assumption))))
        have hown2 := own_gw hown hG2
        go_wp2_with fail
        go_ret2
        exact ⟨some ⟨g, 0, none⟩, c', by rw [hfin.out, HL.out]; rfl, by rw [hfin.out, HL.out]; exact hown2, Gw.trans hgw hG2⟩
    · have hfin : Hid (runF l es 0 = (cur, k)) := by unfold Hid; rw [← hq.out, drop_all hlt]; rfl
      obtain rfl : k = es.length := by omega
      go_wp2_with fail
      go_ret2
      exact ⟨some ⟨g, 0, none⟩, c', by rw [hfin.out, HL.out]; rfl, by rw [hfin.out, HL.out]; exact hown, by (repeat (first | with_reducible exact Gw.refl _ | with_reducible assumption | ((with_reducible refine Gw.set ?_ ?_ _); rotate_left; (focus (first | (simp; done) | (simp; omega) | omega))) | with_reducible refine Gw.alloc ?_ _ | with_reducible refine Gw.drew ?_ | with_reducible refine Gw.drewN ?_ _ | (refine Gw.trans ?_ (by with_reducible assumption))))⟩

set_option maxHeartbeats 4000000 in
set_option maxRecDepth 100000 in
theorem s_edRun (A : Option Addr) (cap : Nat) (l : List (Int × Int)) (B : Option Addr) (cap2 : Nat) (es : List (Int × Int × Int × Int × Int × Int)) (w : World) (hl : l.length ≤ 1048576) (hA : Rd w A l) (hne : l ≠ []) (hl2 : es.length ≤ 1048576) (hB : Rd w B es) (hE : ∀ x ∈ es, 0 ≤ x.2.1) :
    Calls Try.prog 39 #[.slice A l.length cap, .slice B es.length cap2] w fun e' w' => ∃ A c, e' = .returned (.tuple #[.slice A l.length c, .int .i64 (runF l es 0).2]) ∧
      w'.ownsRow w.heap.size 26 2 (.slice A l.length c) l.length (flat (runF l es 0).1) ∧ Gw w w' := by
  have Hne := Lib.hid hne
  have HE := Lib.hid hE
  clear hne hE
  go_enter Try.func39, Try.ntmps39
  go_wp2_with (go_at_call 40; refine (s_chOwn _ _ _ l _ rfl hl hA Hne.out).mono ?_; rintro _ w4 ⟨A', c', rfl, hown, hG4⟩)
  obtain ⟨L, hL⟩ : ∃ L, l.length = L := ⟨_, rfl⟩
  have HL := Lib.hid hL
  rw [hL] at hown hl ⊢
  clear hL
  go_loopw [6, 15] (fun o i wr => ∃ (k : Nat) (cur : List (Int × Int)) (C : Option Addr) (c : Nat), i = .int .i64 k ∧ k ≤ es.length ∧ o = .slice C L c ∧ Hid (cur.length = L) ∧ wr.ownsRow w.heap.size 26 2 (.slice C L c) L (flat cur) ∧ Hid (runF cur (es.drop k) k = runF l es 0) ∧ Gw w wr) (fun _ i _ => es.length - (intOf i).toNat)
  case atStart => exact ⟨0, l, A', c', by go_num, Nat.zero_le _, rfl, HL, hown, by unfold Hid; simp, hG4⟩
  case round =>
    clear hown
    obtain ⟨k, cur, C, c', rfl, hk, rfl, hcl, hown, hq, hgw⟩ := hrel
    by_cases hlt : k < es.length
    · obtain ⟨x, hx⟩ := get_of_lt hlt
      obtain ⟨x0, xp, y1, y2, z1, z2⟩ := x
      obtain ⟨b, off, rfl, hb, c0, c1, c2, c3, c4, c5⟩ := (hB.gw hgw).get6 hx
      dsimp only at c0 c1 c2 c3 c4 c5
      have h0 : 0 ≤ xp := HE.out _ (mem_of_get hx)
      have hd := Lib.hid (drop_of' hx)
      clear hx
      obtain ⟨m, rfl⟩ : ∃ m : Nat, xp = (m : Int) := ⟨xp.toNat, by omega⟩
      have hrd : Rd wr C cur := own_rd (by rw [hcl.out]; exact hown)
      by_cases hF : FitP cur m y1 y2 z1 z2
      · have HF := Lib.hid hF
        clear hF
        have hv : Hid (moveF cur m y1 y2 z1 z2 = (cur.set m (z1, z2), true)) := by unfold Hid moveF; rw [if_pos HF.out]; simp
        have hn' : Hid (runF (cur.set m (z1, z2)) (es.drop (k + 1)) (k + 1) = runF l es 0) := by unfold Hid; rw [← hq.out, hd.out, runF_yes HF.out]; simp
        have hsl : Hid ((cur.set m (z1, z2)).length = L) := by unfold Hid; rw [List.length_set]; exact hcl.out
        go_wp2_with fail
        refine (s_edApply' _ _ _ cur _ _ _ _ _ _ _ hcl.out hl (hrd.gw (by (repeat (first | with_reducible exact Gw.refl _ | with_reducible assumption | ((with_reducible refine Gw.set ?_ ?_ _); rotate_left; (focus (first | (simp; done) | (simp; omega) | omega))) | with_reducible refine Gw.alloc ?_ _ | with_reducible refine Gw.drew ?_ | with_reducible refine Gw.drewN ?_ _ | (refine Gw.trans ?_ (by with_reducible assumption))))))).mono ?_
        rw [hv.out]
        dsimp only
        rw [hsl.out]
        rintro _ w2 ⟨A2, c2, rfl, hown2, hb2⟩
        have hG2 : Gw wr w2 := by (repeat (first | with_reducible exact Gw.refl _ | with_reducible assumption | ((with_reducible refine Gw.set ?_ ?_ _); rotate_left; (focus (first | (simp; done) | (simp; omega) | omega))) | with_reducible refine Gw.alloc ?_ _ | with_reducible refine Gw.drew ?_ | with_reducible refine Gw.drewN ?_ _ | (refine Gw.trans ?_ (by with_reducible assumption))))
        go_wp2_with fail
        go_roundw
        case rel => exact ⟨k + 1, cur.set m (z1, z2), A2, c2, by go_num, by omega, rfl, hsl, own_lower hown2 (by have := hgw.size; simp; omega), hn', Gw.trans hgw hG2⟩
        case measure => simp [intOf]; omega
      · have HF := Lib.hid hF
        clear hF
        have hv : Hid (moveF cur m y1 y2 z1 z2 = ([], false)) := by unfold Hid moveF; rw [if_neg HF.out]
        have hfin : Hid (runF l es 0 = (cur, k)) := by unfold Hid; rw [← hq.out, hd.out, runF_no HF.out]
        go_wp2_with fail
        refine (s_edApply' _ _ _ cur _ _ _ _ _ _ _ hcl.out hl (hrd.gw (by (repeat (first | with_reducible exact Gw.refl _ | with_reducible assumption | ((with_reducible refine Gw.set ?_ ?_ _); rotate_left; (focus (first | (simp; done) | (simp; omega) | omega))) | with_reducible refine Gw.alloc ?_ _ | with_reducible refine Gw.drew ?_ | with_reducible refine Gw.drewN ?_ _ | (refine Gw.trans ?_ (by with_reducible assumption))))))).mono ?_
        rw [hv.out]
        dsimp only
        rintro _ w2 ⟨A2, c2, rfl, hown2, hb2⟩
        have hG2 : Gw wr w2 := by (repeat (first | with_reducible exact Gw.refl _ | with_reducible assumption | ((with_reducible refine Gw.set ?_ ?_ _); rotate_left; (focus (first | (simp; done) | (simp; omega) | omega))) | with_reducible refine Gw.alloc ?_ _ | with_reducible refine Gw.drew ?_ | with_reducible refine Gw.drewN ?_ _ | (refine Gw.trans ?_ (by with_reducible assumption))))
        have hown3 := own_gw hown hG2
        go_wp2_with fail
        go_ret2
        exact ⟨C, c', by rw [hfin.out, HL.out]; rfl, by rw [hfin.out, HL.out]; exact hown3, Gw.trans hgw hG2⟩
    · have hfin : Hid (runF l es 0 = (cur, k)) := by unfold Hid; rw [← hq.out, drop_all hlt]; rfl
      obtain rfl : k = es.length := by omega
      go_wp2_with fail
      go_ret2
      exact ⟨C, c', by rw [hfin.out, HL.out]; rfl, by rw [hfin.out, HL.out]; exact hown, by (repeat (first | with_reducible exact Gw.refl _ | with_reducible assumption | ((with_reducible refine Gw.set ?_ ?_ _); rotate_left; (focus (first | (simp; done) | (simp; omega) | omega))) | with_reducible refine Gw.alloc ?_ _ | with_reducible refine Gw.drew ?_ | with_reducible refine Gw.drewN ?_ _ | (refine Gw.trans ?_ (by with_reducible assumption))))⟩

open Classical in
noncomputable def applyEditsF (l : List (Int × Int)) (es : List (Int × Int × Int × Int × Int × Int)) : List (Int × Int) × Int × Bool := if ChartP l ∧ EditsP es then ((runF l es 0).1, ((runF l es 0).2 : Int), true) else ([], 0, false)
theorem applyEditsF_len (l : List (Int × Int)) (es : List (Int × Int × Int × Int × Int × Int)) : (applyEditsF l es).1.length ≤ 1048576 := by
  unfold applyEditsF
  split
  · rename_i h
    rw [runF_len]
    have := h.1.2.2
    omega
  · simp

set_option maxHeartbeats 2000000 in
theorem s_ApplyEdits (A : Option Addr) (cap : Nat) (l : List (Int × Int)) (B : Option Addr) (cap2 : Nat) (es : List (Int × Int × Int × Int × Int × Int)) (w : World) (hl : l.length ≤ 1048576) (hA : Rd w A l) (hlc : l.length ≤ cap) (hl2 : es.length ≤ 1048576) (hB : Rd w B es) (_hlc2 : es.length ≤ cap2) :
    Calls Try.prog 14 #[.slice A l.length cap, .slice B es.length cap2] w fun e' w' => ∃ A c, e' = .returned (.tuple #[.slice A (applyEditsF l es).1.length c, .int .i64 (applyEditsF l es).2.1, .bool (applyEditsF l es).2.2]) ∧
      w'.ownsRow w.heap.size 26 2 (.slice A (applyEditsF l es).1.length c) (applyEditsF l es).1.length (flat (applyEditsF l es).1) ∧ Gw w w' := by
  go_enter Try.func14, Try.ntmps14
  go_wp2_with fail
  refine (s_chGood _ _ _ _ hl (hA.gw (by (repeat (first | with_reducible exact Gw.refl _ | with_reducible assumption | ((with_reducible refine Gw.set ?_ ?_ _); rotate_left; (focus (first | (simp; done) | (simp; omega) | omega))) | with_reducible refine Gw.alloc ?_ _ | with_reducible refine Gw.drew ?_ | with_reducible refine Gw.drewN ?_ _ | (refine Gw.trans ?_ (by with_reducible assumption)))))) hlc).mono ?_
  rintro _ w1 (⟨hp, rfl, hb1⟩ | ⟨hp, rfl, hb1⟩)
  · have HC := Lib.hid hp
    clear hp
    have hc1 := hb1.cells; have hf1 := hb1.frozens; have hz1 := hb1.size; (try simp at hz1); (try have hy1 : w.heap.size < w1.heap.size := by omega); (try have hx1 : w.heap.size ≤ w1.heap.size := by omega)
    go_wp2_with fail
    refine (s_edAll _ _ _ _ hl2 (hB.gw (by (repeat (first | with_reducible exact Gw.refl _ | with_reducible assumption | ((with_reducible refine Gw.set ?_ ?_ _); rotate_left; (focus (first | (simp; done) | (simp; omega) | omega))) | with_reducible refine Gw.alloc ?_ _ | with_reducible refine Gw.drew ?_ | with_reducible refine Gw.drewN ?_ _ | (refine Gw.trans ?_ (by with_reducible assumption))))))).mono ?_
    rintro _ w2 (⟨hp, rfl, hb2⟩ | ⟨hp, rfl, hb2⟩)
    · have HE := Lib.hid hp
      clear hp
      have hc2 := hb2.cells; have hf2 := hb2.frozens; have hz2 := hb2.size; (try simp at hz2); (try have hy2 : w.heap.size < w2.heap.size := by omega); (try have hx2 : w.heap.size ≤ w2.heap.size := by omega)
      have hv : applyEditsF l es = ((runF l es 0).1, ((runF l es 0).2 : Int), true) := by unfold applyEditsF; rw [if_pos ⟨HC.out, HE.out⟩]
      have hne : l ≠ [] := by intro h; have := HC.out.2.1; rw [h] at this; simp at this
      have hrl := Lib.hid (runF_len es l 0)
      go_wp2_with fail
      refine (s_edRun _ _ l _ _ es _ hl (hA.gw (by (repeat (first | with_reducible exact Gw.refl _ | with_reducible assumption | ((with_reducible refine Gw.set ?_ ?_ _); rotate_left; (focus (first | (simp; done) | (simp; omega) | omega))) | with_reducible refine Gw.alloc ?_ _ | with_reducible refine Gw.drew ?_ | with_reducible refine Gw.drewN ?_ _ | (refine Gw.trans ?_ (by with_reducible assumption)))))) hne hl2 (hB.gw (by (repeat (first | with_reducible exact Gw.refl _ | with_reducible assumption | ((with_reducible refine Gw.set ?_ ?_ _); rotate_left; (focus (first | (simp; done) | (simp; omega) | omega))) | with_reducible refine Gw.alloc ?_ _ | with_reducible refine Gw.drew ?_ | with_reducible refine Gw.drewN ?_ _ | (refine Gw.trans ?_ (by with_reducible assumption)))))) (fun x hx => by have := HE.out.1 x hx; omega)).mono ?_
      rintro _ w3 ⟨A3, c3, rfl, hown, hb3⟩
      have hc3 := hb3.cells; have hf3 := hb3.frozens; have hz3 := hb3.size; (try simp at hz3); (try have hy3 : w.heap.size < w3.heap.size := by omega); (try have hx3 : w.heap.size ≤ w3.heap.size := by omega)
      go_wp2_with fail
      go_ret3
      refine ⟨A3, c3, ?_, ?_, by (repeat (first | with_reducible exact Gw.refl _ | with_reducible assumption | ((with_reducible refine Gw.set ?_ ?_ _); rotate_left; (focus (first | (simp; done) | (simp; omega) | omega))) | with_reducible refine Gw.alloc ?_ _ | with_reducible refine Gw.drew ?_ | with_reducible refine Gw.drewN ?_ _ | (refine Gw.trans ?_ (by with_reducible assumption))))⟩
      · rw [hv]; dsimp only; rw [hrl.out]; rfl
      · rw [hv]; dsimp only; rw [hrl.out]; exact own_lower hown (by omega)
    · have HE := Lib.hid hp
      clear hp
      have hc2 := hb2.cells; have hf2 := hb2.frozens; have hz2 := hb2.size; (try simp at hz2); (try have hy2 : w.heap.size < w2.heap.size := by omega); (try have hx2 : w.heap.size ≤ w2.heap.size := by omega)
      have hno : applyEditsF l es = ([], 0, false) := by unfold applyEditsF; rw [if_neg (fun h => HE.out h.2)]
      go_wp2_with fail
      go_ret3
      exact ⟨none, 0, by rw [hno]; rfl, by rw [hno]; exact World.ownsRow_nil _ _ _ _, by (repeat (first | with_reducible exact Gw.refl _ | with_reducible assumption | ((with_reducible refine Gw.set ?_ ?_ _); rotate_left; (focus (first | (simp; done) | (simp; omega) | omega))) | with_reducible refine Gw.alloc ?_ _ | with_reducible refine Gw.drew ?_ | with_reducible refine Gw.drewN ?_ _ | (refine Gw.trans ?_ (by with_reducible assumption))))⟩
  · have HC := Lib.hid hp
    clear hp
    have hc1 := hb1.cells; have hf1 := hb1.frozens; have hz1 := hb1.size; (try simp at hz1); (try have hy1 : w.heap.size < w1.heap.size := by omega); (try have hx1 : w.heap.size ≤ w1.heap.size := by omega)
    have hno : applyEditsF l es = ([], 0, false) := by unfold applyEditsF; rw [if_neg (fun h => HC.out h.1)]
    go_wp2_with fail
    go_ret3
    exact ⟨none, 0, by rw [hno]; rfl, by rw [hno]; exact World.ownsRow_nil _ _ _ _, by (repeat (first | with_reducible exact Gw.refl _ | with_reducible assumption | ((with_reducible refine Gw.set ?_ ?_ _); rotate_left; (focus (first | (simp; done) | (simp; omega) | omega))) | with_reducible refine Gw.alloc ?_ _ | with_reducible refine Gw.drew ?_ | with_reducible refine Gw.drewN ?_ _ | (refine Gw.trans ?_ (by with_reducible assumption))))⟩

set_option maxHeartbeats 2000000 in
theorem i_ApplyEdits (A : Option Addr) (cap : Nat) (l : List (Int × Int)) (B : Option Addr) (cap2 : Nat) (es : List (Int × Int × Int × Int × Int × Int)) (w : World) (hl : l.length ≤ 1048576) (hA : Rd w A l) (hlc : l.length ≤ cap) (hl2 : es.length ≤ 1048576) (hB : Rd w B es) (_hlc2 : es.length ≤ cap2) :
    Calls Try.prog 13 #[.slice A l.length cap, .slice B es.length cap2] w fun e' w' => ∃ A c, e' = .returned (.tuple #[.slice A (applyEditsF l es).1.length c, .int .i64 (applyEditsF l es).2.1, .bool (applyEditsF l es).2.2]) ∧
      w'.ownsRow w.heap.size 26 2 (.slice A (applyEditsF l es).1.length c) (applyEditsF l es).1.length (flat (applyEditsF l es).1) ∧ Gw w w' := by
  go_enter Try.func13, Try.ntmps13
  go_wp2_with fail
  refine (i_IsChart _ _ _ _ hl (hA.gw (by (repeat (first | with_reducible exact Gw.refl _ | with_reducible assumption | ((with_reducible refine Gw.set ?_ ?_ _); rotate_left; (focus (first | (simp; done) | (simp; omega) | omega))) | with_reducible refine Gw.alloc ?_ _ | with_reducible refine Gw.drew ?_ | with_reducible refine Gw.drewN ?_ _ | (refine Gw.trans ?_ (by with_reducible assumption)))))) hlc).mono ?_
  rintro _ w1 (⟨hp, rfl, hb1⟩ | ⟨hp, rfl, hb1⟩)
  · have HC := Lib.hid hp
    clear hp
    have hc1 := hb1.cells; have hf1 := hb1.frozens; have hz1 := hb1.size; (try simp at hz1); (try have hy1 : w.heap.size < w1.heap.size := by omega); (try have hx1 : w.heap.size ≤ w1.heap.size := by omega)
    go_wp2_with fail
    refine (i_areEdits _ _ _ _ hl2 (hB.gw (by (repeat (first | with_reducible exact Gw.refl _ | with_reducible assumption | ((with_reducible refine Gw.set ?_ ?_ _); rotate_left; (focus (first | (simp; done) | (simp; omega) | omega))) | with_reducible refine Gw.alloc ?_ _ | with_reducible refine Gw.drew ?_ | with_reducible refine Gw.drewN ?_ _ | (refine Gw.trans ?_ (by with_reducible assumption))))))).mono ?_
    rintro _ w2 (⟨hp, rfl, hb2⟩ | ⟨hp, rfl, hb2⟩)
    · have HE := Lib.hid hp
      clear hp
      have hc2 := hb2.cells; have hf2 := hb2.frozens; have hz2 := hb2.size; (try simp at hz2); (try have hy2 : w.heap.size < w2.heap.size := by omega); (try have hx2 : w.heap.size ≤ w2.heap.size := by omega)
      have hv : applyEditsF l es = ((runF l es 0).1, ((runF l es 0).2 : Int), true) := by unfold applyEditsF; rw [if_pos ⟨HC.out, HE.out⟩]
      have hne : l ≠ [] := by intro h; have := HC.out.2.1; rw [h] at this; simp at this
      have hrl := Lib.hid (runF_len es l 0)
      go_wp2_with fail
      refine (i_applyEdits _ _ l _ _ es _ hl (hA.gw (by (repeat (first | with_reducible exact Gw.refl _ | with_reducible assumption | ((with_reducible refine Gw.set ?_ ?_ _); rotate_left; (focus (first | (simp; done) | (simp; omega) | omega))) | with_reducible refine Gw.alloc ?_ _ | with_reducible refine Gw.drew ?_ | with_reducible refine Gw.drewN ?_ _ | (refine Gw.trans ?_ (by with_reducible assumption)))))) hne hl2 (hB.gw (by (repeat (first | with_reducible exact Gw.refl _ | with_reducible assumption | ((with_reducible refine Gw.set ?_ ?_ _); rotate_left; (focus (first | (simp; done) | (simp; omega) | omega))) | with_reducible refine Gw.alloc ?_ _ | with_reducible refine Gw.drew ?_ | with_reducible refine Gw.drewN ?_ _ | (refine Gw.trans ?_ (by with_reducible assumption)))))) (fun x hx => by have := HE.out.1 x hx; omega)).mono ?_
      rintro _ w3 ⟨A3, c3, rfl, hown, hb3⟩
      have hc3 := hb3.cells; have hf3 := hb3.frozens; have hz3 := hb3.size; (try simp at hz3); (try have hy3 : w.heap.size < w3.heap.size := by omega); (try have hx3 : w.heap.size ≤ w3.heap.size := by omega)
      go_wp2_with fail
      go_ret3
      refine ⟨A3, c3, ?_, ?_, by (repeat (first | with_reducible exact Gw.refl _ | with_reducible assumption | ((with_reducible refine Gw.set ?_ ?_ _); rotate_left; (focus (first | (simp; done) | (simp; omega) | omega))) | with_reducible refine Gw.alloc ?_ _ | with_reducible refine Gw.drew ?_ | with_reducible refine Gw.drewN ?_ _ | (refine Gw.trans ?_ (by with_reducible assumption))))⟩
      · rw [hv]; dsimp only; rw [hrl.out]; rfl
      · rw [hv]; dsimp only; rw [hrl.out]; exact own_lower hown (by omega)
    · have HE := Lib.hid hp
      clear hp
      have hc2 := hb2.cells; have hf2 := hb2.frozens; have hz2 := hb2.size; (try simp at hz2); (try have hy2 : w.heap.size < w2.heap.size := by omega); (try have hx2 : w.heap.size ≤ w2.heap.size := by omega)
      have hno : applyEditsF l es = ([], 0, false) := by unfold applyEditsF; rw [if_neg (fun h => HE.out h.2)]
      go_wp2_with fail
      go_ret3
      exact ⟨none, 0, by rw [hno]; rfl, by rw [hno]; exact World.ownsRow_nil _ _ _ _, by (repeat (first | with_reducible exact Gw.refl _ | with_reducible assumption | ((with_reducible refine Gw.set ?_ ?_ _); rotate_left; (focus (first | (simp; done) | (simp; omega) | omega))) | with_reducible refine Gw.alloc ?_ _ | with_reducible refine Gw.drew ?_ | with_reducible refine Gw.drewN ?_ _ | (refine Gw.trans ?_ (by with_reducible assumption))))⟩
  · have HC := Lib.hid hp
    clear hp
    have hc1 := hb1.cells; have hf1 := hb1.frozens; have hz1 := hb1.size; (try simp at hz1); (try have hy1 : w.heap.size < w1.heap.size := by omega); (try have hx1 : w.heap.size ≤ w1.heap.size := by omega)
    have hno : applyEditsF l es = ([], 0, false) := by unfold applyEditsF; rw [if_neg (fun h => HC.out h.1)]
    go_wp2_with fail
    go_ret3
    exact ⟨none, 0, by rw [hno]; rfl, by rw [hno]; exact World.ownsRow_nil _ _ _ _, by (repeat (first | with_reducible exact Gw.refl _ | with_reducible assumption | ((with_reducible refine Gw.set ?_ ?_ _); rotate_left; (focus (first | (simp; done) | (simp; omega) | omega))) | with_reducible refine Gw.alloc ?_ _ | with_reducible refine Gw.drew ?_ | with_reducible refine Gw.drewN ?_ _ | (refine Gw.trans ?_ (by with_reducible assumption))))⟩

end Go.Proofs.Ytoofpajeogllhaa