/-
  An edit applied to a chart.
-/
import Derived.Test.YtoofpajeogllhaaChart
import Derived.Test.YtoofpajeogllhaaEdit
import Derived.Test.YtoofpajeogllhaaAppend
import Derived.Test.YtoofpajeogllhaaTell
namespace Go.Proofs.Ytoofpajeogllhaa
open Go.RowKit

abbrev FitP (l : List (Int × Int)) (p b1 b2 a1 a2 : Int) : Prop := 0 ≤ p ∧ l[p.toNat]? = some (b1, b2) ∧ (a1, a2) ∉ l
open Classical in
noncomputable def moveF (l : List (Int × Int)) (p b1 b2 a1 a2 : Int) : List (Int × Int) × Bool := if FitP l p b1 b2 a1 a2 then (l.set p.toNat (a1, a2), true) else ([], false)
open Classical in
noncomputable def applyF (l : List (Int × Int)) (e p b1 b2 a1 a2 : Int) : List (Int × Int) × Bool := if ChartP l ∧ EditP e p b1 b2 a1 a2 then moveF l p b1 b2 a1 a2 else ([], false)

set_option maxHeartbeats 2000000 in
theorem i_fits (A : Option Addr) (cap : Nat) (l : List (Int × Int)) (e p b1 b2 a1 a2 : Int) (w : World) (hl : l.length ≤ 1048576) (hA : Rd w A l) (hp : 0 ≤ p) :
    Calls Try.prog 27 #[.slice A l.length cap, .agg #[.int .i64 e, .int .i64 p, .int .i64 b1, .int .i64 b2, .int .i64 a1, .int .i64 a2]] w (Tells (FitP l p b1 b2 a1 a2) w) := by
  obtain ⟨k, rfl⟩ : ∃ k : Nat, p = (k : Int) := ⟨p.toNat, by omega⟩
  have hk : ((k : Int)).toNat = k := by simp
  go_enter Try.func27, Try.ntmps27
  go_wp2_with fail
  by_cases h1 : k < l.length
  · obtain ⟨x, hx⟩ := get_of_lt h1
    obtain ⟨x1, x2⟩ := x
    obtain ⟨b, off, rfl, hb, c0, c1⟩ := hA.get2 hx
    dsimp only at c0 c1
    have Hx : Hid (l[k]? = some (x1, x2)) := hx; clear hx
    have g1 : decide ((k : Int) < (l.length : Int)) = true := by simp; omega
    by_cases h2 : x1 = b1
    · by_cases h3 : x2 = b2
      · have e1 : (x1 == b1) = true := by simp [h2]
        have e2 : (x2 == b2) = true := by simp [h3]
        have He : Hid ((x1, x2) = (b1, b2)) := by unfold Hid; rw [h2, h3]
        clear h2 h3
        by_cases hM : (a1, a2) ∈ l
        · have HM : Hid ((a1, a2) ∈ l) := hM
          clear hM
          go_wp2_with ((with_reducible refine wp_region_gw (by kernel_rfl) (by kernel_rfl) ?_); have hcq := @GwOf.cell; (repeat (go_big_quiet_step ((go_at_call 33; exact GwOf.callT HM.out (x_ContainsSpot _ _ _ _ _ _ _ rfl (by omega) (hA.gw (Gw.trans ((Gw.refl _).alloc _) (GwOf.gw _)))))))); refine wpQuiet_nil ?_; clear hcq; rintro w' ⟨⟨w', hb⟩, rfl⟩; (try dsimp only); have hc := hb.cells; have hf := hb.frozens; have hz := hb.size; (try simp at hz); (try have hz0 : w.heap.size < w'.heap.size := (by omega)); (try have hz1 : w.heap.size + 1 < w'.heap.size := (by omega)); (try have hz2 : w.heap.size + 2 < w'.heap.size := (by omega)); (try have hz3 : w.heap.size + 3 < w'.heap.size := (by omega)); (try have hz4 : w.heap.size + 4 < w'.heap.size := (by omega)); (try have hz5 : w.heap.size + 5 < w'.heap.size := (by omega)))
          go_ret
          exact .inr ⟨fun h => h.2.2 HM.out, rfl, by (repeat (first | with_reducible exact Gw.refl _ | with_reducible assumption | ((with_reducible refine Gw.set ?_ ?_ _); rotate_left; (focus (first | (simp; done) | (simp; omega) | omega))) | with_reducible refine Gw.alloc ?_ _ | with_reducible refine Gw.drew ?_ | with_reducible refine Gw.drewN ?_ _ | (refine Gw.trans ?_ (by with_reducible assumption))))⟩
        · have HM : Hid (¬(a1, a2) ∈ l) := hM
          clear hM
          go_wp2_with ((with_reducible refine wp_region_gw (by kernel_rfl) (by kernel_rfl) ?_); have hcq := @GwOf.cell; (repeat (go_big_quiet_step ((go_at_call 33; exact GwOf.callF HM.out (x_ContainsSpot _ _ _ _ _ _ _ rfl (by omega) (hA.gw (Gw.trans ((Gw.refl _).alloc _) (GwOf.gw _)))))))); refine wpQuiet_nil ?_; clear hcq; rintro w' ⟨⟨w', hb⟩, rfl⟩; (try dsimp only); have hc := hb.cells; have hf := hb.frozens; have hz := hb.size; (try simp at hz); (try have hz0 : w.heap.size < w'.heap.size := (by omega)); (try have hz1 : w.heap.size + 1 < w'.heap.size := (by omega)); (try have hz2 : w.heap.size + 2 < w'.heap.size := (by omega)); (try have hz3 : w.heap.size + 3 < w'.heap.size := (by omega)); (try have hz4 : w.heap.size + 4 < w'.heap.size := (by omega)); (try have hz5 : w.heap.size + 5 < w'.heap.size := (by omega)))
          go_ret
          exact .inl ⟨⟨by omega, by rw [hk, Hx.out, He.out], HM.out⟩, rfl, by (repeat (first | with_reducible exact Gw.refl _ | with_reducible assumption | ((with_reducible refine Gw.set ?_ ?_ _); rotate_left; (focus (first | (simp; done) | (simp; omega) | omega))) | with_reducible refine Gw.alloc ?_ _ | with_reducible refine Gw.drew ?_ | with_reducible refine Gw.drewN ?_ _ | (refine Gw.trans ?_ (by with_reducible assumption))))⟩
      · have e1 : (x1 == b1) = true := by simp [h2]
        have e2 : (x2 == b2) = false := by simp [h3]
        have He : Hid (¬(x1, x2) = (b1, b2)) := by unfold Hid; simp [h3]
        clear h2 h3
        go_wp2_with ((with_reducible refine wp_region_gw (by kernel_rfl) (by kernel_rfl) ?_); have hcq := @GwOf.cell; (repeat (go_big_quiet_step (fail))); refine wpQuiet_nil ?_; clear hcq; rintro w' ⟨⟨w', hb⟩, rfl⟩; (try dsimp only); have hc := hb.cells; have hf := hb.frozens; have hz := hb.size; (try simp at hz); (try have hz0 : w.heap.size < w'.heap.size := (by omega)); (try have hz1 : w.heap.size + 1 < w'.heap.size := (by omega)); (try have hz2 : w.heap.size + 2 < w'.heap.size := (by omega)); (try have hz3 : w.heap.size + 3 < w'.heap.size := (by omega)); (try have hz4 : w.heap.size + 4 < w'.heap.size := (by omega)); (try have hz5 : w.heap.size + 5 < w'.heap.size := (by omega)))
        go_ret
        exact .inr ⟨fun h => by have := h.2.1; rw [hk, Hx.out] at this; exact He.out (Option.some.inj this), rfl, by (repeat (first | with_reducible exact Gw.refl _ | with_reducible assumption | ((with_reducible refine Gw.set ?_ ?_ _); rotate_left; (focus (first | (simp; done) | (simp; omega) | omega))) | with_reducible refine Gw.alloc ?_ _ | with_reducible refine Gw.drew ?_ | with_reducible refine Gw.drewN ?_ _ | (refine Gw.trans ?_ (by with_reducible assumption))))⟩
    · have e1 : (x1 == b1) = false := by simp [h2]
      have He : Hid (¬(x1, x2) = (b1, b2)) := by unfold Hid; simp [h2]
      clear h2
      go_wp2_with ((with_reducible refine wp_region_gw (by kernel_rfl) (by kernel_rfl) ?_); have hcq := @GwOf.cell; (repeat (go_big_quiet_step (fail))); refine wpQuiet_nil ?_; clear hcq; rintro w' ⟨⟨w', hb⟩, rfl⟩; (try dsimp only); have hc := hb.cells; have hf := hb.frozens; have hz := hb.size; (try simp at hz); (try have hz0 : w.heap.size < w'.heap.size := (by omega)); (try have hz1 : w.heap.size + 1 < w'.heap.size := (by omega)); (try have hz2 : w.heap.size + 2 < w'.heap.size := (by omega)); (try have hz3 : w.heap.size + 3 < w'.heap.size := (by omega)); (try have hz4 : w.heap.size + 4 < w'.heap.size := (by omega)); (try have hz5 : w.heap.size + 5 < w'.heap.size := (by omega)))
      go_ret
      exact .inr ⟨fun h => by have := h.2.1; rw [hk, Hx.out] at this; exact He.out (Option.some.inj this), rfl, by (repeat (first | with_reducible exact Gw.refl _ | with_reducible assumption | ((with_reducible refine Gw.set ?_ ?_ _); rotate_left; (focus (first | (simp; done) | (simp; omega) | omega))) | with_reducible refine Gw.alloc ?_ _ | with_reducible refine Gw.drew ?_ | with_reducible refine Gw.drewN ?_ _ | (refine Gw.trans ?_ (by with_reducible assumption))))⟩
  · have g1 : decide ((k : Int) < (l.length : Int)) = false := by simp; omega
    go_wp2_with ((with_reducible refine wp_region_gw (by kernel_rfl) (by kernel_rfl) ?_); have hcq := @GwOf.cell; (repeat (go_big_quiet_step (fail))); refine wpQuiet_nil ?_; clear hcq; rintro w' ⟨⟨w', hb⟩, rfl⟩; (try dsimp only); have hc := hb.cells; have hf := hb.frozens; have hz := hb.size; (try simp at hz); (try have hz0 : w.heap.size < w'.heap.size := (by omega)); (try have hz1 : w.heap.size + 1 < w'.heap.size := (by omega)); (try have hz2 : w.heap.size + 2 < w'.heap.size := (by omega)); (try have hz3 : w.heap.size + 3 < w'.heap.size := (by omega)); (try have hz4 : w.heap.size + 4 < w'.heap.size := (by omega)); (try have hz5 : w.heap.size + 5 < w'.heap.size := (by omega)))
    go_ret
    exact .inr ⟨fun h => by have := h.2.1; rw [hk, List.getElem?_eq_none (by omega)] at this; exact absurd this (by simp), rfl, by (repeat (first | with_reducible exact Gw.refl _ | with_reducible assumption | ((with_reducible refine Gw.set ?_ ?_ _); rotate_left; (focus (first | (simp; done) | (simp; omega) | omega))) | with_reducible refine Gw.alloc ?_ _ | with_reducible refine Gw.drew ?_ | with_reducible refine Gw.drewN ?_ _ | (refine Gw.trans ?_ (by with_reducible assumption))))⟩
set_option maxHeartbeats 1000000 in
theorem s_chOwn (A : Option Addr) (cap n : Nat) (l : List (Int × Int)) (w : World) (hn : l.length = n) (hl : n ≤ 1048576) (hA : Rd w A l) (hne : l ≠ []) :
    Calls Try.prog 40 #[.slice A n cap] w fun e' w' => ∃ A c, e' = .returned (.slice A n c) ∧
      w'.ownsRow w.heap.size 26 2 (.slice A n c) n (flat l) ∧ Gw w w' := by
  subst hn
  obtain ⟨i0, hi, hz0, hz1, hz2⟩ := info_parts infoSpot
  have Hne : Hid (l ≠ []) := hne
  clear hne
  go_enter Try.func40, Try.ntmps40
  go_wp2_with (at_builtin; refine wpList_cat (α := (Int × Int)) rfl (.tmp 3) (.tmp 4) 24 rfl w.heap.size 26 i0 _ 16 Try.underlying24 hi hz0 hz1 hz2 rfl (by omega) [] (some ⟨w.heap.size, 0, none⟩) 0 rfl l A cap rfl (hA.gw (by (repeat (first | with_reducible exact Gw.refl _ | with_reducible assumption | ((with_reducible refine Gw.set ?_ ?_ _); rotate_left; (focus (first | (simp; done) | (simp; omega) | omega))) | with_reducible refine Gw.alloc ?_ _ | with_reducible refine Gw.drew ?_ | with_reducible refine Gw.drewN ?_ _ | (refine Gw.trans ?_ (by with_reducible assumption)))))) Hne.out (World.ownsRow_made w #[] 0 (Nat.le_refl _) (by simp [maxLen]) (by simp)) (by simp) hl (by simp) ?_; intro acc' A' c' w2 hacc' hl1 hown' _ hgg)
  go_ret
  have he := hacc'.out
  rw [List.nil_append] at he
  subst he
  exact ⟨A', c', rfl, hown', hgg w (by (repeat (first | with_reducible exact Gw.refl _ | with_reducible assumption | ((with_reducible refine Gw.set ?_ ?_ _); rotate_left; (focus (first | (simp; done) | (simp; omega) | omega))) | with_reducible refine Gw.alloc ?_ _ | with_reducible refine Gw.drew ?_ | with_reducible refine Gw.drewN ?_ _ | (refine Gw.trans ?_ (by with_reducible assumption))))) (Nat.le_refl _)⟩

set_option maxHeartbeats 4000000 in
theorem s_edMove (A : Option Addr) (cap : Nat) (l : List (Int × Int)) (p b1 b2 a1 a2 : Int) (w : World) (hl : l.length ≤ 1048576) (hA : Rd w A l) :
    Calls Try.prog 51 #[.slice A l.length cap, .int .i64 p, .agg #[.int .i64 b1, .int .i64 b2], .agg #[.int .i64 a1, .int .i64 a2]] w fun e' w' => ∃ A c, e' = .returned (.tuple #[.slice A (moveF l p b1 b2 a1 a2).1.length c, .bool (moveF l p b1 b2 a1 a2).2]) ∧
      w'.ownsRow w.heap.size 26 2 (.slice A (moveF l p b1 b2 a1 a2).1.length c) (moveF l p b1 b2 a1 a2).1.length (flat (moveF l p b1 b2 a1 a2).1) ∧ Gw w w' := by
  have HA : Hid (Rd w A l) := hA
  go_enter Try.func51, Try.ntmps51
  go_wp2_with fail
  by_cases hI : InR p 0 ((l.length : Int) - 1)
  · obtain ⟨k, rfl⟩ : ∃ k : Nat, p = (k : Int) := ⟨p.toNat, by omega⟩
    have hk : ((k : Int)).toNat = k := by simp
    have h1 : k < l.length := by omega
    have HI := Lib.hid hI
    clear hI
    obtain ⟨x, hx⟩ := get_of_lt h1
    obtain ⟨x1, x2⟩ := x
    obtain ⟨b, off, rfl, hb, c0, c1⟩ := hA.get2 hx
    dsimp only at c0 c1
    have hb1 : b < w.heap.size + 1 := by omega
    have hb2 : b < w.heap.size + 2 := by omega
    have Hx : Hid (l[k]? = some (x1, x2)) := hx; clear hx
    have hf := findF_iff l (a1, a2) 0
    have hbd := findF_bd l (a1, a2) 0
    obtain ⟨q, hq⟩ : ∃ q, findF l (a1, a2) 0 = q := ⟨_, rfl⟩
    rw [hq] at hf hbd
    have Hq : Hid (findF l (a1, a2) 0 = q) := hq
    have Hf : Hid (0 ≤ q ↔ (a1, a2) ∈ l) := hf
    clear hq hf
    by_cases h2 : x1 = b1
    · by_cases h3 : x2 = b2
      · have e1 : (x1 == b1) = true := by simp [h2]
        have e2 : (x2 == b2) = true := by simp [h3]
        have He : Hid ((x1, x2) = (b1, b2)) := by unfold Hid; rw [h2, h3]
        clear h2 h3
        by_cases hM : 0 ≤ q
        · have hno : moveF l k b1 b2 a1 a2 = ([], false) := by unfold moveF; rw [if_neg (fun h => h.2.2 (Hf.out.1 hM))]
          have g1 : decide (q ≥ 0) = true := by simp; omega
          go_wp2_with ((with_reducible refine wp_region_gw (by kernel_rfl) (by kernel_rfl) ?_); have hcq := @GwOf.cell; (repeat (go_big_quiet_step ((first | (go_at_call 57; exact GwOf.callT HI.out ((s_l1In _ _ _ _).mono (fun _ _ h => h.tells))) | (go_at_call 48; refine GwOf.call (v := .int .i64 q) ?_; rw [← Hq.out]; exact s_chFind _ _ _ _ _ _ _ rfl (by omega) (hA.gw (Gw.trans (by (repeat (first | with_reducible exact Gw.refl _ | with_reducible assumption | ((with_reducible refine Gw.set ?_ ?_ _); rotate_left; (focus (first | (simp; done) | (simp; omega) | omega))) | with_reducible refine Gw.alloc ?_ _ | with_reducible refine Gw.drew ?_ | with_reducible refine Gw.drewN ?_ _ | (refine Gw.trans ?_ (by with_reducible assumption))))) (GwOf.gw _)))))))); refine wpQuiet_nil ?_; clear hcq; rintro w' ⟨⟨w', hb⟩, rfl⟩; (try dsimp only); have hc := hb.cells; have hf := hb.frozens; have hz := hb.size; (try simp at hz); (try have hz0 : w.heap.size < w'.heap.size := (by omega)); (try have hz1 : w.heap.size + 1 < w'.heap.size := (by omega)); (try have hz2 : w.heap.size + 2 < w'.heap.size := (by omega)); (try have hz3 : w.heap.size + 3 < w'.heap.size := (by omega)); (try have hz4 : w.heap.size + 4 < w'.heap.size := (by omega)); (try have hz5 : w.heap.size + 5 < w'.heap.size := (by omega)))
          go_ret2
          exact ⟨none, 0, ret_lb (A := none) (c := 0) hno, by rw [hno]; exact World.ownsRow_nil _ _ _ _, by (repeat (first | with_reducible exact Gw.refl _ | with_reducible assumption | ((with_reducible refine Gw.set ?_ ?_ _); rotate_left; (focus (first | (simp; done) | (simp; omega) | omega))) | with_reducible refine Gw.alloc ?_ _ | with_reducible refine Gw.drew ?_ | with_reducible refine Gw.drewN ?_ _ | (refine Gw.trans ?_ (by with_reducible assumption))))⟩
        · have hv : Hid (moveF l k b1 b2 a1 a2 = (l.set k (a1, a2), true)) := by unfold Hid moveF; rw [if_pos ⟨by omega, by rw [hk, Hx.out, He.out], fun h => hM (Hf.out.2 h)⟩]; simp
          have g1 : decide (q ≥ 0) = false := by simp; omega
          go_wp2_with ((with_reducible refine wp_region_gw (by kernel_rfl) (by kernel_rfl) ?_); have hcq := @GwOf.cell; (repeat (go_big_quiet_step ((first | (go_at_call 57; exact GwOf.callT HI.out ((s_l1In _ _ _ _).mono (fun _ _ h => h.tells))) | (go_at_call 48; refine GwOf.call (v := .int .i64 q) ?_; rw [← Hq.out]; exact s_chFind _ _ _ _ _ _ _ rfl (by omega) (hA.gw (Gw.trans (by (repeat (first | with_reducible exact Gw.refl _ | with_reducible assumption | ((with_reducible refine Gw.set ?_ ?_ _); rotate_left; (focus (first | (simp; done) | (simp; omega) | omega))) | with_reducible refine Gw.alloc ?_ _ | with_reducible refine Gw.drew ?_ | with_reducible refine Gw.drewN ?_ _ | (refine Gw.trans ?_ (by with_reducible assumption))))) (GwOf.gw _)))))))); refine wpQuiet_nil ?_; clear hcq; rintro w' ⟨⟨w', hb⟩, rfl⟩; (try dsimp only); have hc := hb.cells; have hf := hb.frozens; have hz := hb.size; (try simp at hz); (try have hz0 : w.heap.size < w'.heap.size := (by omega)); (try have hz1 : w.heap.size + 1 < w'.heap.size := (by omega)); (try have hz2 : w.heap.size + 2 < w'.heap.size := (by omega)); (try have hz3 : w.heap.size + 3 < w'.heap.size := (by omega)); (try have hz4 : w.heap.size + 4 < w'.heap.size := (by omega)); (try have hz5 : w.heap.size + 5 < w'.heap.size := (by omega)))
          refine (s_chOwn _ _ _ l _ rfl hl (HA.out.gw (by (repeat (first | with_reducible exact Gw.refl _ | with_reducible assumption | ((with_reducible refine Gw.set ?_ ?_ _); rotate_left; (focus (first | (simp; done) | (simp; omega) | omega))) | with_reducible refine Gw.alloc ?_ _ | with_reducible refine Gw.drew ?_ | with_reducible refine Gw.drewN ?_ _ | (refine Gw.trans ?_ (by with_reducible assumption)))))) (by intro h; rw [h] at h1; simp at h1)).mono ?_
          rintro _ w2 ⟨A2, c2, rfl, hown, hb2⟩
          have hc2 := hb2.cells; have hf2 := hb2.frozens; have hz2 := hb2.size; (try simp at hz2)
          have hG2 : Gw w w2 := Gw.trans (by (repeat (first | with_reducible exact Gw.refl _ | with_reducible assumption | ((with_reducible refine Gw.set ?_ ?_ _); rotate_left; (focus (first | (simp; done) | (simp; omega) | omega))) | with_reducible refine Gw.alloc ?_ _ | with_reducible refine Gw.drew ?_ | with_reducible refine Gw.drewN ?_ _ | (refine Gw.trans ?_ (by with_reducible assumption))))) hb2
          have hz3 := hG2.size
          (try have hz4 : w'.heap.size ≤ w2.heap.size := by omega)
          (try have hz5 : w.heap.size < w2.heap.size := by omega)
          (try have hz6 : w.heap.size + 1 < w2.heap.size := by omega)
          (try have hz7 : w.heap.size + 1 < w'.heap.size := by omega)
          obtain ⟨g, rfl, hbg, hg⟩ := own_addr hown (by omega)
          obtain ⟨u0, n0⟩ := own_cell hown (j := k * 2) (by omega); have fz0 := World.ownsRow.frozenAt hown (k * 2); obtain ⟨u1, n1⟩ := own_cell hown (j := k * 2 + 1) (by omega); have fz1 := World.ownsRow.frozenAt hown (k * 2 + 1)
          have r := own_set2 (k := k) hown (a1, a2)
          go_wp2_with fail
          go_ret2
          refine ⟨some ⟨g, 0, none⟩, c2, by rw [hv.out]; simp only [List.length_set]; rfl, ?_, ?_⟩
          · rw [hv.out]; simp only [List.length_set]; exact own_lower r.1 (by omega)
          · exact hG2.grown r.2 (fun k hk => by simp at hk; omega)
      · have e1 : (x1 == b1) = true := by simp [h2]
        have e2 : (x2 == b2) = false := by simp [h3]
        have He : Hid (¬(x1, x2) = (b1, b2)) := by unfold Hid; simp [h3]
        clear h2 h3
        have hno : moveF l k b1 b2 a1 a2 = ([], false) := by unfold moveF; rw [if_neg (fun h => by have := h.2.1; rw [hk, Hx.out] at this; exact He.out (Option.some.inj this))]
        go_wp2_with ((with_reducible refine wp_region_gw (by kernel_rfl) (by kernel_rfl) ?_); have hcq := @GwOf.cell; (repeat (go_big_quiet_step ((first | (go_at_call 57; exact GwOf.callT HI.out ((s_l1In _ _ _ _).mono (fun _ _ h => h.tells))) | (go_at_call 48; refine GwOf.call (v := .int .i64 q) ?_; rw [← Hq.out]; exact s_chFind _ _ _ _ _ _ _ rfl (by omega) (hA.gw (Gw.trans (by (repeat (first | with_reducible exact Gw.refl _ | with_reducible assumption | ((with_reducible refine Gw.set ?_ ?_ _); rotate_left; (focus (first | (simp; done) | (simp; omega) | omega))) | with_reducible refine Gw.alloc ?_ _ | with_reducible refine Gw.drew ?_ | with_reducible refine Gw.drewN ?_ _ | (refine Gw.trans ?_ (by with_reducible assumption))))) (GwOf.gw _)))))))); refine wpQuiet_nil ?_; clear hcq; rintro w' ⟨⟨w', hb⟩, rfl⟩; (try dsimp only); have hc := hb.cells; have hf := hb.frozens; have hz := hb.size; (try simp at hz); (try have hz0 : w.heap.size < w'.heap.size := (by omega)); (try have hz1 : w.heap.size + 1 < w'.heap.size := (by omega)); (try have hz2 : w.heap.size + 2 < w'.heap.size := (by omega)); (try have hz3 : w.heap.size + 3 < w'.heap.size := (by omega)); (try have hz4 : w.heap.size + 4 < w'.heap.size := (by omega)); (try have hz5 : w.heap.size + 5 < w'.heap.size := (by omega)))
        go_ret2
        exact ⟨none, 0, ret_lb (A := none) (c := 0) hno, by rw [hno]; exact World.ownsRow_nil _ _ _ _, by (repeat (first | with_reducible exact Gw.refl _ | with_reducible assumption | ((with_reducible refine Gw.set ?_ ?_ _); rotate_left; (focus (first | (simp; done) | (simp; omega) | omega))) | with_reducible refine Gw.alloc ?_ _ | with_reducible refine Gw.drew ?_ | with_reducible refine Gw.drewN ?_ _ | (refine Gw.trans ?_ (by with_reducible assumption))))⟩
    · have e1 : (x1 == b1) = false := by simp [h2]
      have He : Hid (¬(x1, x2) = (b1, b2)) := by unfold Hid; simp [h2]
      clear h2
      have hno : moveF l k b1 b2 a1 a2 = ([], false) := by unfold moveF; rw [if_neg (fun h => by have := h.2.1; rw [hk, Hx.out] at this; exact He.out (Option.some.inj this))]
      go_wp2_with ((with_reducible refine wp_region_gw (by kernel_rfl) (by kernel_rfl) ?_); have hcq := @GwOf.cell; (repeat (go_big_quiet_step ((first | (go_at_call 57; exact GwOf.callT HI.out ((s_l1In _ _ _ _).mono (fun _ _ h => h.tells))) | (go_at_call 48; refine GwOf.call (v := .int .i64 q) ?_; rw [← Hq.out]; exact s_chFind _ _ _ _ _ _ _ rfl (by omega) (hA.gw (Gw.trans (by (repeat (first | with_reducible exact Gw.refl _ | with_reducible assumption | ((with_reducible refine Gw.set ?_ ?_ _); rotate_left; (focus (first | (simp; done) | (simp; omega) | omega))) | with_reducible refine Gw.alloc ?_ _ | with_reducible refine Gw.drew ?_ | with_reducible refine Gw.drewN ?_ _ | (refine Gw.trans ?_ (by with_reducible assumption))))) (GwOf.gw _)))))))); refine wpQuiet_nil ?_; clear hcq; rintro w' ⟨⟨w', hb⟩, rfl⟩; (try dsimp only); have hc := hb.cells; have hf := hb.frozens; have hz := hb.size; (try simp at hz); (try have hz0 : w.heap.size < w'.heap.size := (by omega)); (try have hz1 : w.heap.size + 1 < w'.heap.size := (by omega)); (try have hz2 : w.heap.size + 2 < w'.heap.size := (by omega)); (try have hz3 : w.heap.size + 3 < w'.heap.size := (by omega)); (try have hz4 : w.heap.size + 4 < w'.heap.size := (by omega)); (try have hz5 : w.heap.size + 5 < w'.heap.size := (by omega)))
      go_ret2
      exact ⟨none, 0, ret_lb (A := none) (c := 0) hno, by rw [hno]; exact World.ownsRow_nil _ _ _ _, by (repeat (first | with_reducible exact Gw.refl _ | with_reducible assumption | ((with_reducible refine Gw.set ?_ ?_ _); rotate_left; (focus (first | (simp; done) | (simp; omega) | omega))) | with_reducible refine Gw.alloc ?_ _ | with_reducible refine Gw.drew ?_ | with_reducible refine Gw.drewN ?_ _ | (refine Gw.trans ?_ (by with_reducible assumption))))⟩
  · have hno : moveF l p b1 b2 a1 a2 = ([], false) := by
      unfold moveF; rw [if_neg (fun h => by have := h.1; have := (List.getElem?_eq_some_iff.1 h.2.1).1; omega)]
    have HI := Lib.hid hI
    clear hI
    go_wp2_with ((with_reducible refine wp_region_gw (by kernel_rfl) (by kernel_rfl) ?_); have hcq := @GwOf.cell; (repeat (go_big_quiet_step ((go_at_call 57; exact GwOf.callF HI.out ((s_l1In _ _ _ _).mono (fun _ _ h => h.tells)))))); refine wpQuiet_nil ?_; clear hcq; rintro w' ⟨⟨w', hb⟩, rfl⟩; (try dsimp only); have hc := hb.cells; have hf := hb.frozens; have hz := hb.size; (try simp at hz); (try have hz0 : w.heap.size < w'.heap.size := (by omega)); (try have hz1 : w.heap.size + 1 < w'.heap.size := (by omega)); (try have hz2 : w.heap.size + 2 < w'.heap.size := (by omega)); (try have hz3 : w.heap.size + 3 < w'.heap.size := (by omega)); (try have hz4 : w.heap.size + 4 < w'.heap.size := (by omega)); (try have hz5 : w.heap.size + 5 < w'.heap.size := (by omega)))
    go_ret2
    exact ⟨none, 0, ret_lb (A := none) (c := 0) hno, by rw [hno]; exact World.ownsRow_nil _ _ _ _, by (repeat (first | with_reducible exact Gw.refl _ | with_reducible assumption | ((with_reducible refine Gw.set ?_ ?_ _); rotate_left; (focus (first | (simp; done) | (simp; omega) | omega))) | with_reducible refine Gw.alloc ?_ _ | with_reducible refine Gw.drew ?_ | with_reducible refine Gw.drewN ?_ _ | (refine Gw.trans ?_ (by with_reducible assumption))))⟩

set_option maxHeartbeats 2000000 in
set_option maxRecDepth 100000 in
theorem s_edApply (A : Option Addr) (cap : Nat) (l : List (Int × Int)) (e p b1 b2 a1 a2 : Int) (w : World) (hl : l.length ≤ 1048576) (hA : Rd w A l) :
    Calls Try.prog 30 #[.slice A l.length cap, .agg #[.int .i64 e, .int .i64 p, .int .i64 b1, .int .i64 b2, .int .i64 a1, .int .i64 a2]] w fun e' w' => ∃ A c, e' = .returned (.tuple #[.slice A (moveF l p b1 b2 a1 a2).1.length c, .bool (moveF l p b1 b2 a1 a2).2]) ∧
      w'.ownsRow w.heap.size 26 2 (.slice A (moveF l p b1 b2 a1 a2).1.length c) (moveF l p b1 b2 a1 a2).1.length (flat (moveF l p b1 b2 a1 a2).1) ∧ Gw w w' := by
  go_enter Try.func30, Try.ntmps30
  go_wp2_with fail
  refine (s_edMove _ _ _ _ _ _ _ _ _ hl (hA.gw (by (repeat (first | with_reducible exact Gw.refl _ | with_reducible assumption | ((with_reducible refine Gw.set ?_ ?_ _); rotate_left; (focus (first | (simp; done) | (simp; omega) | omega))) | with_reducible refine Gw.alloc ?_ _ | with_reducible refine Gw.drew ?_ | with_reducible refine Gw.drewN ?_ _ | (refine Gw.trans ?_ (by with_reducible assumption))))))).mono ?_
  rintro _ w1 ⟨A1, c1, rfl, hown, hb1⟩
  have hc1 := hb1.cells; have hf1 := hb1.frozens; have hz1 := hb1.size; (try simp at hz1); (try have hy1 : w.heap.size < w1.heap.size := by omega); (try have hx1 : w.heap.size ≤ w1.heap.size := by omega)
  go_wp2_with fail
  go_ret2
  exact ⟨A1, c1, rfl, own_lower hown (by simp), by (repeat (first | with_reducible exact Gw.refl _ | with_reducible assumption | ((with_reducible refine Gw.set ?_ ?_ _); rotate_left; (focus (first | (simp; done) | (simp; omega) | omega))) | with_reducible refine Gw.alloc ?_ _ | with_reducible refine Gw.drew ?_ | with_reducible refine Gw.drewN ?_ _ | (refine Gw.trans ?_ (by with_reducible assumption))))⟩

set_option maxHeartbeats 2000000 in
set_option maxRecDepth 100000 in
theorem s_ApplyEdit (A : Option Addr) (cap : Nat) (l : List (Int × Int)) (e p b1 b2 a1 a2 : Int) (w : World) (hl : l.length ≤ 1048576) (hA : Rd w A l) (hlc : l.length ≤ cap) :
    Calls Try.prog 7 #[.slice A l.length cap, .agg #[.int .i64 e, .int .i64 p, .int .i64 b1, .int .i64 b2, .int .i64 a1, .int .i64 a2]] w fun e' w' => ∃ A c, e' = .returned (.tuple #[.slice A (applyF l e p b1 b2 a1 a2).1.length c, .bool (applyF l e p b1 b2 a1 a2).2]) ∧
      w'.ownsRow w.heap.size 26 2 (.slice A (applyF l e p b1 b2 a1 a2).1.length c) (applyF l e p b1 b2 a1 a2).1.length (flat (applyF l e p b1 b2 a1 a2).1) ∧ Gw w w' := by
  go_enter Try.func7, Try.ntmps7
  go_wp2_with fail
  refine (s_chGood _ _ _ _ hl (hA.gw (by (repeat (first | with_reducible exact Gw.refl _ | with_reducible assumption | ((with_reducible refine Gw.set ?_ ?_ _); rotate_left; (focus (first | (simp; done) | (simp; omega) | omega))) | with_reducible refine Gw.alloc ?_ _ | with_reducible refine Gw.drew ?_ | with_reducible refine Gw.drewN ?_ _ | (refine Gw.trans ?_ (by with_reducible assumption)))))) hlc).mono ?_
  rintro _ w1 (⟨hp, rfl, hb1⟩ | ⟨hp, rfl, hb1⟩)
  · have HC := Lib.hid hp
    clear hp
    have hc1 := hb1.cells; have hf1 := hb1.frozens; have hz1 := hb1.size; (try simp at hz1); (try have hy1 : w.heap.size < w1.heap.size := by omega); (try have hx1 : w.heap.size ≤ w1.heap.size := by omega)
    go_wp2_with fail
    refine (s_edGood _ _ _ _ _ _ _).mono ?_
    rintro _ w2 (⟨hp, rfl, hb2⟩ | ⟨hp, rfl, hb2⟩)
    · have HE := Lib.hid hp
      clear hp
      have hc2 := hb2.cells; have hf2 := hb2.frozens; have hz2 := hb2.size; (try simp at hz2); (try have hy2 : w.heap.size < w2.heap.size := by omega); (try have hx2 : w.heap.size ≤ w2.heap.size := by omega)
      go_wp2_with fail
      refine (s_edApply _ _ _ _ _ _ _ _ _ _ hl (hA.gw (by (repeat (first | with_reducible exact Gw.refl _ | with_reducible assumption | ((with_reducible refine Gw.set ?_ ?_ _); rotate_left; (focus (first | (simp; done) | (simp; omega) | omega))) | with_reducible refine Gw.alloc ?_ _ | with_reducible refine Gw.drew ?_ | with_reducible refine Gw.drewN ?_ _ | (refine Gw.trans ?_ (by with_reducible assumption))))))).mono ?_
      rintro _ w3 ⟨A3, c3, rfl, hown, hb3⟩
      have hc3 := hb3.cells; have hf3 := hb3.frozens; have hz3 := hb3.size; (try simp at hz3); (try have hy3 : w.heap.size < w3.heap.size := by omega); (try have hx3 : w.heap.size ≤ w3.heap.size := by omega)
      go_wp2_with fail
      have hv : applyF l e p b1 b2 a1 a2 = moveF l p b1 b2 a1 a2 := by unfold applyF; rw [if_pos ⟨HC.out, HE.out⟩]
      go_ret2
      exact ⟨A3, c3, by rw [hv]; rfl, by rw [hv]; exact own_lower hown (by omega), by (repeat (first | with_reducible exact Gw.refl _ | with_reducible assumption | ((with_reducible refine Gw.set ?_ ?_ _); rotate_left; (focus (first | (simp; done) | (simp; omega) | omega))) | with_reducible refine Gw.alloc ?_ _ | with_reducible refine Gw.drew ?_ | with_reducible refine Gw.drewN ?_ _ | (refine Gw.trans ?_ (by with_reducible assumption))))⟩
    · have HE := Lib.hid hp
      clear hp
      have hc2 := hb2.cells; have hf2 := hb2.frozens; have hz2 := hb2.size; (try simp at hz2); (try have hy2 : w.heap.size < w2.heap.size := by omega); (try have hx2 : w.heap.size ≤ w2.heap.size := by omega)
      have hno : applyF l e p b1 b2 a1 a2 = ([], false) := by unfold applyF; rw [if_neg (fun h => HE.out h.2)]
      go_wp2_with fail
      go_ret2
      exact ⟨none, 0, ret_lb (A := none) (c := 0) hno, by rw [hno]; exact World.ownsRow_nil _ _ _ _, by (repeat (first | with_reducible exact Gw.refl _ | with_reducible assumption | ((with_reducible refine Gw.set ?_ ?_ _); rotate_left; (focus (first | (simp; done) | (simp; omega) | omega))) | with_reducible refine Gw.alloc ?_ _ | with_reducible refine Gw.drew ?_ | with_reducible refine Gw.drewN ?_ _ | (refine Gw.trans ?_ (by with_reducible assumption))))⟩
  · have HC := Lib.hid hp
    clear hp
    have hc1 := hb1.cells; have hf1 := hb1.frozens; have hz1 := hb1.size; (try simp at hz1); (try have hy1 : w.heap.size < w1.heap.size := by omega); (try have hx1 : w.heap.size ≤ w1.heap.size := by omega)
    have hno : applyF l e p b1 b2 a1 a2 = ([], false) := by unfold applyF; rw [if_neg (fun h => HC.out h.1)]
    go_wp2_with fail
    go_ret2
    exact ⟨none, 0, ret_lb (A := none) (c := 0) hno, by rw [hno]; exact World.ownsRow_nil _ _ _ _, by (repeat (first | with_reducible exact Gw.refl _ | with_reducible assumption | ((with_reducible refine Gw.set ?_ ?_ _); rotate_left; (focus (first | (simp; done) | (simp; omega) | omega))) | with_reducible refine Gw.alloc ?_ _ | with_reducible refine Gw.drew ?_ | with_reducible refine Gw.drewN ?_ _ | (refine Gw.trans ?_ (by with_reducible assumption))))⟩

open Classical in
noncomputable def undoF (l : List (Int × Int)) (e p b1 b2 a1 a2 : Int) : List (Int × Int) × Bool := if ChartP l ∧ EditP e p b1 b2 a1 a2 then moveF l p a1 a2 b1 b2 else ([], false)
theorem editP_swap {e p b1 b2 a1 a2 : Int} : EditP e p a1 a2 b1 b2 ↔ EditP e p b1 b2 a1 a2 := by
  constructor <;> intro h <;> omega
theorem undoF_eq {l : List (Int × Int)} {e p b1 b2 a1 a2 : Int} (h : EditP e p b1 b2 a1 a2) : undoF l e p b1 b2 a1 a2 = applyF l e p a1 a2 b1 b2 := by
  unfold undoF applyF
  by_cases hC : ChartP l
  · rw [if_pos ⟨hC, h⟩, if_pos ⟨hC, editP_swap.2 h⟩]
  · rw [if_neg (fun h => hC h.1), if_neg (fun h => hC h.1)]

set_option maxHeartbeats 2000000 in
set_option maxRecDepth 100000 in
theorem s_UndoEdit (A : Option Addr) (cap : Nat) (l : List (Int × Int)) (e p b1 b2 a1 a2 : Int) (w : World) (hl : l.length ≤ 1048576) (hA : Rd w A l) (hlc : l.length ≤ cap) :
    Calls Try.prog 24 #[.slice A l.length cap, .agg #[.int .i64 e, .int .i64 p, .int .i64 b1, .int .i64 b2, .int .i64 a1, .int .i64 a2]] w fun e' w' => ∃ A c, e' = .returned (.tuple #[.slice A (undoF l e p b1 b2 a1 a2).1.length c, .bool (undoF l e p b1 b2 a1 a2).2]) ∧
      w'.ownsRow w.heap.size 26 2 (.slice A (undoF l e p b1 b2 a1 a2).1.length c) (undoF l e p b1 b2 a1 a2).1.length (flat (undoF l e p b1 b2 a1 a2).1) ∧ Gw w w' := by
  go_enter Try.func24, Try.ntmps24
  go_wp2_with fail
  refine (s_chGood _ _ _ _ hl (hA.gw (by (repeat (first | with_reducible exact Gw.refl _ | with_reducible assumption | ((with_reducible refine Gw.set ?_ ?_ _); rotate_left; (focus (first | (simp; done) | (simp; omega) | omega))) | with_reducible refine Gw.alloc ?_ _ | with_reducible refine Gw.drew ?_ | with_reducible refine Gw.drewN ?_ _ | (refine Gw.trans ?_ (by with_reducible assumption)))))) hlc).mono ?_
  rintro _ w1 (⟨hp, rfl, hb1⟩ | ⟨hp, rfl, hb1⟩)
  · have HC := Lib.hid hp
    clear hp
    have hc1 := hb1.cells; have hf1 := hb1.frozens; have hz1 := hb1.size; (try simp at hz1); (try have hy1 : w.heap.size < w1.heap.size := by omega); (try have hx1 : w.heap.size ≤ w1.heap.size := by omega)
    go_wp2_with fail
    refine (s_edGood _ _ _ _ _ _ _).mono ?_
    rintro _ w2 (⟨hp, rfl, hb2⟩ | ⟨hp, rfl, hb2⟩)
    · have HE := Lib.hid hp
      clear hp
      have hc2 := hb2.cells; have hf2 := hb2.frozens; have hz2 := hb2.size; (try simp at hz2); (try have hy2 : w.heap.size < w2.heap.size := by omega); (try have hx2 : w.heap.size ≤ w2.heap.size := by omega)
      go_wp2_with fail
      refine (s_edMove _ _ _ _ _ _ _ _ _ hl (hA.gw (by (repeat (first | with_reducible exact Gw.refl _ | with_reducible assumption | ((with_reducible refine Gw.set ?_ ?_ _); rotate_left; (focus (first | (simp; done) | (simp; omega) | omega))) | with_reducible refine Gw.alloc ?_ _ | with_reducible refine Gw.drew ?_ | with_reducible refine Gw.drewN ?_ _ | (refine Gw.trans ?_ (by with_reducible assumption))))))).mono ?_
      rintro _ w3 ⟨A3, c3, rfl, hown, hb3⟩
      have hc3 := hb3.cells; have hf3 := hb3.frozens; have hz3 := hb3.size; (try simp at hz3); (try have hy3 : w.heap.size < w3.heap.size := by omega); (try have hx3 : w.heap.size ≤ w3.heap.size := by omega)
      go_wp2_with fail
      have hv : undoF l e p b1 b2 a1 a2 = moveF l p a1 a2 b1 b2 := by unfold undoF; rw [if_pos ⟨HC.out, HE.out⟩]
      go_ret2
      exact ⟨A3, c3, by rw [hv]; rfl, by rw [hv]; exact own_lower hown (by omega), by (repeat (first | with_reducible exact Gw.refl _ | with_reducible assumption | ((with_reducible refine Gw.set ?_ ?_ _); rotate_left; (focus (first | (simp; done) | (simp; omega) | omega))) | with_reducible refine Gw.alloc ?_ _ | with_reducible refine Gw.drew ?_ | with_reducible refine Gw.drewN ?_ _ | (refine Gw.trans ?_ (by with_reducible assumption))))⟩
    · have HE := Lib.hid hp
      clear hp
      have hc2 := hb2.cells; have hf2 := hb2.frozens; have hz2 := hb2.size; (try simp at hz2); (try have hy2 : w.heap.size < w2.heap.size := by omega); (try have hx2 : w.heap.size ≤ w2.heap.size := by omega)
      have hno : undoF l e p b1 b2 a1 a2 = ([], false) := by unfold undoF; rw [if_neg (fun h => HE.out h.2)]
      go_wp2_with fail
      go_ret2
      exact ⟨none, 0, ret_lb (A := none) (c := 0) hno, by rw [hno]; exact World.ownsRow_nil _ _ _ _, by (repeat (first | with_reducible exact Gw.refl _ | with_reducible assumption | ((with_reducible refine Gw.set ?_ ?_ _); rotate_left; (focus (first | (simp; done) | (simp; omega) | omega))) | with_reducible refine Gw.alloc ?_ _ | with_reducible refine Gw.drew ?_ | with_reducible refine Gw.drewN ?_ _ | (refine Gw.trans ?_ (by with_reducible assumption))))⟩
  · have HC := Lib.hid hp
    clear hp
    have hc1 := hb1.cells; have hf1 := hb1.frozens; have hz1 := hb1.size; (try simp at hz1); (try have hy1 : w.heap.size < w1.heap.size := by omega); (try have hx1 : w.heap.size ≤ w1.heap.size := by omega)
    have hno : undoF l e p b1 b2 a1 a2 = ([], false) := by unfold undoF; rw [if_neg (fun h => HC.out h.1)]
    go_wp2_with fail
    go_ret2
    exact ⟨none, 0, ret_lb (A := none) (c := 0) hno, by rw [hno]; exact World.ownsRow_nil _ _ _ _, by (repeat (first | with_reducible exact Gw.refl _ | with_reducible assumption | ((with_reducible refine Gw.set ?_ ?_ _); rotate_left; (focus (first | (simp; done) | (simp; omega) | omega))) | with_reducible refine Gw.alloc ?_ _ | with_reducible refine Gw.drew ?_ | with_reducible refine Gw.drewN ?_ _ | (refine Gw.trans ?_ (by with_reducible assumption))))⟩

set_option maxHeartbeats 2000000 in
set_option maxRecDepth 100000 in
theorem i_ApplyEdit (A : Option Addr) (cap : Nat) (l : List (Int × Int)) (e p b1 b2 a1 a2 : Int) (w : World) (hl : l.length ≤ 1048576) (hA : Rd w A l) (hlc : l.length ≤ cap) :
    Calls Try.prog 6 #[.slice A l.length cap, .agg #[.int .i64 e, .int .i64 p, .int .i64 b1, .int .i64 b2, .int .i64 a1, .int .i64 a2]] w fun e' w' => ∃ A c, e' = .returned (.tuple #[.slice A (applyF l e p b1 b2 a1 a2).1.length c, .bool (applyF l e p b1 b2 a1 a2).2]) ∧
      w'.ownsRow w.heap.size 26 2 (.slice A (applyF l e p b1 b2 a1 a2).1.length c) (applyF l e p b1 b2 a1 a2).1.length (flat (applyF l e p b1 b2 a1 a2).1) ∧ Gw w w' := by
  go_enter Try.func6, Try.ntmps6
  obtain ⟨i0, hi, hzz0, hzz1, hzz2⟩ := info_parts infoSpot
  have HA : Hid (Rd w A l) := hA
  go_wp2_with fail
  refine (i_IsChart _ _ _ _ hl (hA.gw (by (repeat (first | with_reducible exact Gw.refl _ | with_reducible assumption | ((with_reducible refine Gw.set ?_ ?_ _); rotate_left; (focus (first | (simp; done) | (simp; omega) | omega))) | with_reducible refine Gw.alloc ?_ _ | with_reducible refine Gw.drew ?_ | with_reducible refine Gw.drewN ?_ _ | (refine Gw.trans ?_ (by with_reducible assumption)))))) hlc).mono ?_
  rintro _ w1 (⟨hp, rfl, hb1⟩ | ⟨hp, rfl, hb1⟩)
  · have HC := Lib.hid hp
    clear hp
    have hc1 := hb1.cells; have hf1 := hb1.frozens; have hz1 := hb1.size; (try simp at hz1); (try have hy1 : w.heap.size < w1.heap.size := by omega); (try have hx1 : w.heap.size ≤ w1.heap.size := by omega)
    go_wp2_with fail
    refine (i_IsEdit _ _ _ _ _ _ _).mono ?_
    rintro _ w2 (⟨hp, rfl, hb2⟩ | ⟨hp, rfl, hb2⟩)
    · have HE := Lib.hid hp
      clear hp
      have hc2 := hb2.cells; have hf2 := hb2.frozens; have hz2 := hb2.size; (try simp at hz2); (try have hy2 : w.heap.size < w2.heap.size := by omega); (try have hx2 : w.heap.size ≤ w2.heap.size := by omega)
      have hp0 : 0 ≤ p := HE.out.2.1.1
      go_wp2_with fail
      refine (i_fits _ _ _ _ _ _ _ _ _ _ hl (hA.gw (by (repeat (first | with_reducible exact Gw.refl _ | with_reducible assumption | ((with_reducible refine Gw.set ?_ ?_ _); rotate_left; (focus (first | (simp; done) | (simp; omega) | omega))) | with_reducible refine Gw.alloc ?_ _ | with_reducible refine Gw.drew ?_ | with_reducible refine Gw.drewN ?_ _ | (refine Gw.trans ?_ (by with_reducible assumption)))))) hp0).mono ?_
      rintro _ w3 (⟨hp, rfl, hb3⟩ | ⟨hp, rfl, hb3⟩)
      · have HF := Lib.hid hp
        clear hp
        have hc3 := hb3.cells; have hf3 := hb3.frozens; have hz3 := hb3.size; (try simp at hz3); (try have hy3 : w.heap.size < w3.heap.size := by omega); (try have hx3 : w.heap.size ≤ w3.heap.size := by omega)
        obtain ⟨k, rfl⟩ : ∃ k : Nat, p = (k : Int) := ⟨p.toNat, by omega⟩
        have hk : ((k : Int)).toNat = k := by simp
        have h1 : k < l.length := by have := (List.getElem?_eq_some_iff.1 HF.out.2.1).1; omega
        have hv : Hid (applyF l e k b1 b2 a1 a2 = (l.set k (a1, a2), true)) := by unfold Hid applyF; rw [if_pos ⟨HC.out, HE.out⟩]; unfold moveF; rw [if_pos HF.out]; simp
        have hG3 : Gw w w3 := by (repeat (first | with_reducible exact Gw.refl _ | with_reducible assumption | ((with_reducible refine Gw.set ?_ ?_ _); rotate_left; (focus (first | (simp; done) | (simp; omega) | omega))) | with_reducible refine Gw.alloc ?_ _ | with_reducible refine Gw.drew ?_ | with_reducible refine Gw.drewN ?_ _ | (refine Gw.trans ?_ (by with_reducible assumption))))
        go_wp2_with (at_builtin; refine wpList_cat (α := (Int × Int)) rfl (.tmp 21) (.tmp 22) 24 rfl w3.heap.size 26 i0 _ 16 Try.underlying24 hi hzz0 hzz1 hzz2 rfl (by omega) [] (some ⟨w3.heap.size, 0, none⟩) 0 rfl l A cap rfl (HA.out.gw (by (repeat (first | with_reducible exact Gw.refl _ | with_reducible assumption | ((with_reducible refine Gw.set ?_ ?_ _); rotate_left; (focus (first | (simp; done) | (simp; omega) | omega))) | with_reducible refine Gw.alloc ?_ _ | with_reducible refine Gw.drew ?_ | with_reducible refine Gw.drewN ?_ _ | (refine Gw.trans ?_ (by with_reducible assumption)))))) (by intro h; rw [h] at h1; simp at h1) (World.ownsRow_made w3 #[] 0 (Nat.le_refl _) (by simp [maxLen]) (by simp)) (by simp) hl (by simp) ?_; intro acc' A' c' w4 hacc' hl1 hown hgr hgg; have he : l = acc' := (by rw [hacc'.out, List.nil_append]); subst he; have hb4 : Gw w3 w4 := hgg w3 (by (repeat (first | with_reducible exact Gw.refl _ | with_reducible assumption | ((with_reducible refine Gw.set ?_ ?_ _); rotate_left; (focus (first | (simp; done) | (simp; omega) | omega))) | with_reducible refine Gw.alloc ?_ _ | with_reducible refine Gw.drew ?_ | with_reducible refine Gw.drewN ?_ _ | (refine Gw.trans ?_ (by with_reducible assumption))))) (Nat.le_refl _); have hG4 : Gw w w4 := Gw.trans hG3 hb4; have hown : w4.ownsRow w3.heap.size 26 2 (.slice A' l.length c') l.length (flat l) := hown; clear hgr hgg hacc' hl1; have hc4 := hb4.cells; have hf4 := hb4.frozens; have hz4 := hb4.size; (try simp at hz4); (try have hy4 : w.heap.size < w4.heap.size := by omega); (try have hx4 : w.heap.size ≤ w4.heap.size := by omega); obtain ⟨g, rfl, hbg, hg⟩ := own_addr hown (by omega); obtain ⟨u0, n0⟩ := own_cell hown (j := k * 2) (by omega); have fz0 := World.ownsRow.frozenAt hown (k * 2); obtain ⟨u1, n1⟩ := own_cell hown (j := k * 2 + 1) (by omega); have fz1 := World.ownsRow.frozenAt hown (k * 2 + 1); have r := own_set2 (k := k) hown (a1, a2))
        go_ret2
        refine ⟨some ⟨g, 0, none⟩, c', by rw [hv.out]; simp only [List.length_set]; rfl, ?_, ?_⟩
        · rw [hv.out]; simp only [List.length_set]; exact own_lower r.1 (by omega)
        · exact hG4.grown r.2 (fun k hk => by simp at hk; omega)
      · have HF := Lib.hid hp
        clear hp
        have hc3 := hb3.cells; have hf3 := hb3.frozens; have hz3 := hb3.size; (try simp at hz3); (try have hy3 : w.heap.size < w3.heap.size := by omega); (try have hx3 : w.heap.size ≤ w3.heap.size := by omega)
        have hno : applyF l e p b1 b2 a1 a2 = ([], false) := by unfold applyF; rw [if_pos ⟨HC.out, HE.out⟩]; unfold moveF; rw [if_neg HF.out]
        go_wp2_with fail
        go_ret2
        exact ⟨none, 0, ret_lb (A := none) (c := 0) hno, by rw [hno]; exact World.ownsRow_nil _ _ _ _, by (repeat (first | with_reducible exact Gw.refl _ | with_reducible assumption | ((with_reducible refine Gw.set ?_ ?_ _); rotate_left; (focus (first | (simp; done) | (simp; omega) | omega))) | with_reducible refine Gw.alloc ?_ _ | with_reducible refine Gw.drew ?_ | with_reducible refine Gw.drewN ?_ _ | (refine Gw.trans ?_ (by with_reducible assumption))))⟩
    · have HE := Lib.hid hp
      clear hp
      have hc2 := hb2.cells; have hf2 := hb2.frozens; have hz2 := hb2.size; (try simp at hz2); (try have hy2 : w.heap.size < w2.heap.size := by omega); (try have hx2 : w.heap.size ≤ w2.heap.size := by omega)
      have hno : applyF l e p b1 b2 a1 a2 = ([], false) := by unfold applyF; rw [if_neg (fun h => HE.out h.2)]
      go_wp2_with fail
      go_ret2
      exact ⟨none, 0, ret_lb (A := none) (c := 0) hno, by rw [hno]; exact World.ownsRow_nil _ _ _ _, by (repeat (first | with_reducible exact Gw.refl _ | with_reducible assumption | ((with_reducible refine Gw.set ?_ ?_ _); rotate_left; (focus (first | (simp; done) | (simp; omega) | omega))) | with_reducible refine Gw.alloc ?_ _ | with_reducible refine Gw.drew ?_ | with_reducible refine Gw.drewN ?_ _ | (refine Gw.trans ?_ (by with_reducible assumption))))⟩
  · have HC := Lib.hid hp
    clear hp
    have hc1 := hb1.cells; have hf1 := hb1.frozens; have hz1 := hb1.size; (try simp at hz1); (try have hy1 : w.heap.size < w1.heap.size := by omega); (try have hx1 : w.heap.size ≤ w1.heap.size := by omega)
    have hno : applyF l e p b1 b2 a1 a2 = ([], false) := by unfold applyF; rw [if_neg (fun h => HC.out h.1)]
    go_wp2_with fail
    go_ret2
    exact ⟨none, 0, ret_lb (A := none) (c := 0) hno, by rw [hno]; exact World.ownsRow_nil _ _ _ _, by (repeat (first | with_reducible exact Gw.refl _ | with_reducible assumption | ((with_reducible refine Gw.set ?_ ?_ _); rotate_left; (focus (first | (simp; done) | (simp; omega) | omega))) | with_reducible refine Gw.alloc ?_ _ | with_reducible refine Gw.drew ?_ | with_reducible refine Gw.drewN ?_ _ | (refine Gw.trans ?_ (by with_reducible assumption))))⟩

set_option maxHeartbeats 2000000 in
set_option maxRecDepth 100000 in
theorem i_UndoEdit (A : Option Addr) (cap : Nat) (l : List (Int × Int)) (e p b1 b2 a1 a2 : Int) (w : World) (hl : l.length ≤ 1048576) (hA : Rd w A l) (hlc : l.length ≤ cap) :
    Calls Try.prog 9 #[.slice A l.length cap, .agg #[.int .i64 e, .int .i64 p, .int .i64 b1, .int .i64 b2, .int .i64 a1, .int .i64 a2]] w fun e' w' => ∃ A c, e' = .returned (.tuple #[.slice A (undoF l e p b1 b2 a1 a2).1.length c, .bool (undoF l e p b1 b2 a1 a2).2]) ∧
      w'.ownsRow w.heap.size 26 2 (.slice A (undoF l e p b1 b2 a1 a2).1.length c) (undoF l e p b1 b2 a1 a2).1.length (flat (undoF l e p b1 b2 a1 a2).1) ∧ Gw w w' := by
  go_enter Try.func9, Try.ntmps9
  go_wp2_with fail
  refine (i_IsEdit _ _ _ _ _ _ _).mono ?_
  rintro _ w1 (⟨hp, rfl, hb1⟩ | ⟨hp, rfl, hb1⟩)
  · have HE := Lib.hid hp
    clear hp
    have hc1 := hb1.cells; have hf1 := hb1.frozens; have hz1 := hb1.size; (try simp at hz1); (try have hy1 : w.heap.size < w1.heap.size := by omega); (try have hx1 : w.heap.size ≤ w1.heap.size := by omega)
    go_wp2_with fail
    refine (i_ApplyEdit _ _ _ _ _ _ _ _ _ _ hl (hA.gw (by (repeat (first | with_reducible exact Gw.refl _ | with_reducible assumption | ((with_reducible refine Gw.set ?_ ?_ _); rotate_left; (focus (first | (simp; done) | (simp; omega) | omega))) | with_reducible refine Gw.alloc ?_ _ | with_reducible refine Gw.drew ?_ | with_reducible refine Gw.drewN ?_ _ | (refine Gw.trans ?_ (by with_reducible assumption)))))) hlc).mono ?_
    rintro _ w2 ⟨A3, c3, rfl, hown, hb2⟩
    have hc2 := hb2.cells; have hf2 := hb2.frozens; have hz2 := hb2.size; (try simp at hz2); (try have hy2 : w.heap.size < w2.heap.size := by omega); (try have hx2 : w.heap.size ≤ w2.heap.size := by omega)
    go_wp2_with fail
    have hv : undoF l e p b1 b2 a1 a2 = applyF l e p a1 a2 b1 b2 := undoF_eq HE.out
    go_ret2
    exact ⟨A3, c3, by rw [hv]; rfl, by rw [hv]; exact own_lower hown (by omega), by (repeat (first | with_reducible exact Gw.refl _ | with_reducible assumption | ((with_reducible refine Gw.set ?_ ?_ _); rotate_left; (focus (first | (simp; done) | (simp; omega) | omega))) | with_reducible refine Gw.alloc ?_ _ | with_reducible refine Gw.drew ?_ | with_reducible refine Gw.drewN ?_ _ | (refine Gw.trans ?_ (by with_reducible assumption))))⟩
  · have HE := Lib.hid hp
    clear hp
    have hc1 := hb1.cells; have hf1 := hb1.frozens; have hz1 := hb1.size; (try simp at hz1); (try have hy1 : w.heap.size < w1.heap.size := by omega); (try have hx1 : w.heap.size ≤ w1.heap.size := by omega)
    have hno : undoF l e p b1 b2 a1 a2 = ([], false) := by unfold undoF; rw [if_neg (fun h => HE.out h.2)]
    go_wp2_with fail
    go_ret2
    exact ⟨none, 0, ret_lb (A := none) (c := 0) hno, by rw [hno]; exact World.ownsRow_nil _ _ _ _, by (repeat (first | with_reducible exact Gw.refl _ | with_reducible assumption | ((with_reducible refine Gw.set ?_ ?_ _); rotate_left; (focus (first | (simp; done) | (simp; omega) | omega))) | with_reducible refine Gw.alloc ?_ _ | with_reducible refine Gw.drew ?_ | with_reducible refine Gw.drewN ?_ _ | (refine Gw.trans ?_ (by with_reducible assumption))))⟩

theorem moveF_len (l : List (Int × Int)) (p b1 b2 a1 a2 : Int) : (moveF l p b1 b2 a1 a2).1.length ≤ l.length := by
  unfold moveF
  split
  · simp
  · simp
theorem applyF_len (l : List (Int × Int)) (e p b1 b2 a1 a2 : Int) : (applyF l e p b1 b2 a1 a2).1.length ≤ 1048576 := by
  unfold applyF
  split
  · rename_i h
    have := moveF_len l p b1 b2 a1 a2
    have := h.1.2.2
    omega
  · simp
theorem undoF_len (l : List (Int × Int)) (e p b1 b2 a1 a2 : Int) : (undoF l e p b1 b2 a1 a2).1.length ≤ 1048576 := by
  unfold undoF
  split
  · rename_i h
    have := moveF_len l p a1 a2 b1 b2
    have := h.1.2.2
    omega
  · simp
end Go.Proofs.Ytoofpajeogllhaa
