/-
  An edit applied to a chart.
-/
import Derived.Test.YtbfchmpigedkbaaChart
import Derived.Test.YtbfchmpigedkbaaEdit
import Derived.Test.YtbfchmpigedkbaaAppend
import Derived.Test.YtbfchmpigedkbaaTell
namespace Go.Proofs.Ytbfchmpigedkbaa
open Go.RowKit

abbrev FitP (l : List (Int × Int)) (p b1 b2 a1 a2 : Int) : Prop := 0 ≤ p ∧ l[p.toNat]? = some (b1, b2) ∧ (a1, a2) ∉ l
open Classical in
noncomputable def moveF (l : List (Int × Int)) (p b1 b2 a1 a2 : Int) : List (Int × Int) × Bool := if FitP l p b1 b2 a1 a2 then (l.set p.toNat (a1, a2), true) else ([], false)
open Classical in
noncomputable def applyF (l : List (Int × Int)) (e p b1 b2 a1 a2 : Int) : List (Int × Int) × Bool := if ChartP l ∧ EditP e p b1 b2 a1 a2 then moveF l p b1 b2 a1 a2 else ([], false)

set_option maxHeartbeats 2000000 in
theorem i_fits (A : Option Addr) (cap : Nat) (l : List (Int × Int)) (e p b1 b2 a1 a2 : Int) (w : World) (hl : l.length ≤ 1048576) (hA : Rd w A l) (hp : 0 ≤ p) :
    Calls Try.prog 39 #[.slice A l.length cap, .agg #[.int .i64 e, .int .i64 p, .int .i64 b1, .int .i64 b2, .int .i64 a1, .int .i64 a2]] w (Tells (FitP l p b1 b2 a1 a2) w) := by
  obtain ⟨k, rfl⟩ : ∃ k : Nat, p = (k : Int) := ⟨p.toNat, by omega⟩
  have hk : ((k : Int)).toNat = k := by simp
  go_enter Try.func39, Try.ntmps39
  go_wp2_with fail
  by_cases h1 : k < l.length
  · obtain ⟨x, hx⟩ := get_of_lt h1
    obtain ⟨x1, x2⟩ := x
    obtain ⟨b, off, rfl, hb, c0, c1⟩ := hA.get2 hx
    dsimp only at c0 c1
    have Hx : Hid (l[k]? = some (x1, x2)) := hx; clear hx
    have g1 : decide ((k : Int) < (l.length : Int)) = true := by simp; omega
    by_cases h2 : x1 = b1
    · by_cases h3 : x2 = b2
      · have e1 : (x1 == b1) = true := by simp [h2]
        have e2 : (x2 == b2) = true := by simp [h3]
        have He : Hid ((x1, x2) = (b1, b2)) := by unfold Hid; rw [h2, h3]
        clear h2 h3
        by_cases hM : (a1, a2) ∈ l
        · have HM : Hid ((a1, a2) ∈ l) := hM
          clear hM
          go_wp2_with ((with_reducible refine wp_region_gw (by kernel_rfl) (by kernel_rfl) ?_); have hcq := @GwOf.cell; (repeat (go_big_quiet_step ((go_at_call 50; exact GwOf.callT HM.out (x_ContainsSpot _ _ _ _ _ _ _ rfl (by omega) (hA.gw (Gw.trans ((Gw.refl _).alloc _) (GwOf.gw _)))))))); refine wpQuiet_nil ?_; clear hcq; rintro w' ⟨⟨w', hb⟩, rfl⟩; (try dsimp only); have hc := hb.cells; have hf := hb.frozens; have hz := hb.size; (try simp at hz); (try have hz0 : w.heap.size < w'.heap.size := (by omega)); (try have hz1 : w.heap.size + 1 < w'.heap.size := (by omega)); (try have hz2 : w.heap.size + 2 < w'.heap.size := (by omega)); (try have hz3 : w.heap.size + 3 < w'.heap.size := (by omega)); (try have hz4 : w.heap.size + 4 < w'.heap.size := (by omega)); (try have hz5 : w.heap.size + 5 < w'.heap.size := (by omega)))
          go_ret
          exact .inr ⟨fun h => h.2.2 HM.out, rfl, by (repeat (first | with_reducible exact Gw.refl _ | with_reducible assumption | ((with_reducible refine Gw.set ?_ ?_ _); rotate_left; (focus (first | (simp; done) | (simp; omega) | omega))) | with_reducible refine Gw.alloc ?_ _ | with_reducible refine Gw.drew ?_ | with_reducible refine Gw.drewN ?_ _ | (refine Gw.trans ?_ (by with_reducible assumption))))⟩
        · have HM : Hid (¬(a1, a2) ∈ l) := hM
          clear hM
          go_wp2_with ((with_reducible refine wp_region_gw (by kernel_rfl) (by kernel_rfl) ?_); have hcq := @GwOf.cell; (repeat (go_big_quiet_step ((go_at_call 50; exact GwOf.callF HM.out (x_ContainsSpot _ _ _ _ _ _ _ rfl (by omega) (hA.gw (Gw.trans ((Gw.refl _).alloc _) (GwOf.gw _)))))))); refine wpQuiet_nil ?_; clear hcq; rintro w' ⟨⟨w', hb⟩, rfl⟩; (try dsimp only); have hc := hb.cells; have hf := hb.frozens; have hz := hb.size; (try simp at hz); (try have hz0 : w.heap.size < w'.heap.size := (by omega)); (try have hz1 : w.heap.size + 1 < w'.heap.size := (by omega)); (try have hz2 : w.heap.size + 2 < w'.heap.size := (by omega)); (try have hz3 : w.heap.size + 3 < w'.heap.size := (by omega)); (try have hz4 : w.heap.size + 4 < w'.heap.size := (by omega)); (try have hz5 : w.heap.size + 5 < w'.heap.size := (by omega)))
          go_ret
          exact .inl ⟨⟨by omega, by rw [hk, Hx.out, He.out], HM.out⟩, rfl, by (repeat (first | with_reducible exact Gw.refl _ | with_reducible assumption | ((with_reducible refine Gw.set ?_ ?_ _); rotate_left; (focus (first | (simp; done) | (simp; omega) | omega))) | with_reducible refine Gw.alloc ?_ _ | with_reducible refine Gw.drew ?_ | with_reducible refine Gw.drewN ?_ _ | (refine Gw.trans ?_ (by with_reducible assumption))))⟩
      · have e1 : (x1 == b1) = true := by simp [h2]
        have e2 : (x2 == b2) = false := by simp [h3]
        have He : Hid (¬(x1, x2) = (b1, b2)) := by unfold Hid; simp [h3]
        clear h2 h3
        go_wp2_with ((with_reducible refine wp_region_gw (by kernel_rfl) (by kernel_rfl) ?_); have hcq := @GwOf.cell; (repeat (go_big_quiet_step (fail))); refine wpQuiet_nil ?_; clear hcq; rintro w' ⟨⟨w', hb⟩, rfl⟩; (try dsimp only); have hc := hb.cells; have hf := hb.frozens; have hz := hb.size; (try simp at hz); (try have hz0 : w.heap.size < w'.heap.size := (by omega)); (try have hz1 : w.heap.size + 1 < w'.heap.size := (by omega)); (try have hz2 : w.heap.size + 2 < w'.heap.size := (by omega)); (try have hz3 : w.heap.size + 3 < w'.heap.size := (by omega)); (try have hz4 : w.heap.size + 4 < w'.heap.size := (by omega)); (try have hz5 : w.heap.size + 5 < w'.heap.size := (by omega)))
        go_ret
        exact .inr ⟨fun h => by have := h.2.1; rw [hk, Hx.out] at this; exact He.out (Option.some.inj this), rfl, by (repeat (first | with_reducible exact Gw.refl _ | with_reducible assumption | ((with_reducible refine Gw.set ?_ ?_ _); rotate_left; (focus (first | (simp; done) | (simp; omega) | omega))) | with_reducible refine Gw.alloc ?_ _ | with_reducible refine Gw.drew ?_ | with_reducible refine Gw.drewN ?_ _ | (refine Gw.trans ?_ (by with_reducible assumption))))⟩
    · have e1 : (x1 == b1) = false := by simp [h2]
      have He : Hid (¬(x1, x2) = (b1, b2)) := by unfold Hid; simp [h2]
      clear h2
      go_wp2_with ((with_reducible refine wp_region_gw (by kernel_rfl) (by kernel_rfl) ?_); have hcq := @GwOf.cell; (repeat (go_big_quiet_step (fail))); refine wpQuiet_nil ?_; clear hcq; rintro w' ⟨⟨w', hb⟩, rfl⟩; (try dsimp only); have hc := hb.cells; have hf := hb.frozens; have hz := hb.size; (try simp at hz); (try have hz0 : w.heap.size < w'.heap.size := (by omega)); (try have hz1 : w.heap.size + 1 < w'.heap.size := (by omega)); (try have hz2 : w.heap.size + 2 < w'.heap.size := (by omega)); (try have hz3 : w.heap.size + 3 < w'.heap.size := (by omega)); (try have hz4 : w.heap.size + 4 < w'.heap.size := (by omega)); (try have hz5 : w.heap.size + 5 < w'.heap.size := (by omega)))
      go_ret
      exact .inr ⟨fun h => by have := h.2.1; rw [hk, Hx.out] at this; exact He.out (Option.some.inj this), rfl, by (repeat (first | with_reducible exact Gw.refl _ | with_reducible assumption | ((with_reducible refine Gw.set ?_ ?_ _); rotate_left; (focus (first | (simp; done) | (simp; omega) | omega))) | with_reducible refine Gw.alloc ?_ _ | with_reducible refine Gw.drew ?_ | with_reducible refine Gw.drewN ?_ _ | (refine Gw.trans ?_ (by with_reducible assumption))))⟩
  · have g1 : decide ((k : Int) < (l.length : Int)) = false := by simp; omega
    go_wp2_with ((with_reducible refine wp_region_gw (by kernel_rfl) (by kernel_rfl) ?_); have hcq := @GwOf.cell; (repeat (go_big_quiet_step (fail))); refine wpQuiet_nil ?_; clear hcq; rintro w' ⟨⟨w', hb⟩, rfl⟩; (try dsimp only); have hc := hb.cells; have hf := hb.frozens; have hz := hb.size; (try simp at hz); (try have hz0 : w.heap.size < w'.heap.size := (by omega)); (try have hz1 : w.heap.size + 1 < w'.heap.size := (by omega)); (try have hz2 : w.heap.size + 2 < w'.heap.size := (by omega)); (try have hz3 : w.heap.size + 3 < w'.heap.size := (by omega)); (try have hz4 : w.heap.size + 4 < w'.heap.size := (by omega)); (try have hz5 : w.heap.size + 5 < w'.heap.size := (by omega)))
    go_ret
    exact .inr ⟨fun h => by have := h.2.1; rw [hk, List.getElem?_eq_none (by omega)] at this; exact absurd this (by simp), rfl, by (repeat (first | with_reducible exact Gw.refl _ | with_reducible assumption | ((with_reducible refine Gw.set ?_ ?_ _); rotate_left; (focus (first | (simp; done) | (simp; omega) | omega))) | with_reducible refine Gw.alloc ?_ _ | with_reducible refine Gw.drew ?_ | with_reducible refine Gw.drewN ?_ _ | (refine Gw.trans ?_ (by with_reducible assumption))))⟩
set_option maxHeartbeats 1000000 in
theorem s_chOwn (A : Option Addr) (cap n : Nat) (l : List (Int × Int)) (w : World) (hn : l.length = n) (hl : n ≤ 1048576) (hA : Rd w A l) (hne : l ≠ []) :
    Calls Try.prog 35 #[.slice A n cap] w fun e' w' => ∃ A c, e' = .returned (.slice A n c) ∧
      w'.ownsRow w.heap.size 48 2 (.slice A n c) n (flat l) ∧ Gw w w' := by
  subst hn
  obtain ⟨i0, hi, hz0, hz1, hz2⟩ := info_parts infoSpot
  have Hne : Hid (l ≠ []) := hne
  clear hne
  go_enter Try.func35, Try.ntmps35
  go_wp2_with (at_builtin; refine wpList_cat (α := (Int × Int)) rfl (.tmp 3) (.tmp 4) 40 rfl w.heap.size 48 i0 _ 16 Try.underlying40 hi hz0 hz1 hz2 rfl (by omega) [] (some ⟨w.heap.size, 0, none⟩) 0 rfl l A cap rfl (hA.gw (by (repeat (first | with_reducible exact Gw.refl _ | with_reducible assumption | ((with_reducible refine Gw.set ?_ ?_ _); rotate_left; (focus (first | (simp; done) | (simp; omega) | omega))) | with_reducible refine Gw.alloc ?_ _ | with_reducible refine Gw.drew ?_ | with_reducible refine Gw.drewN ?_ _ | (refine Gw.trans ?_ (by with_reducible assumption)))))) Hne.out (World.ownsRow_made w #[] 0 (Nat.le_refl _) (by simp [maxLen]) (by simp)) (by simp) hl (by simp) ?_; intro acc' A' c' w2 hacc' hl1 hown' _ hgg)
  go_ret
  have he := hacc'.out
  rw [List.nil_append] at he
  subst he
  exact ⟨A', c', rfl, hown', hgg w (by (repeat (first | with_reducible exact Gw.refl _ | with_reducible assumption | ((with_reducible refine Gw.set ?_ ?_ _); rotate_left; (focus (first | (simp; done) | (simp; omega) | omega))) | with_reducible refine Gw.alloc ?_ _ | with_reducible refine Gw.drew ?_ | with_reducible refine Gw.drewN ?_ _ | (refine Gw.trans ?_ (by with_reducible assumption))))) (Nat.le_refl _)⟩

open Classical in
noncomputable def undoF (l : List (Int × Int)) (e p b1 b2 a1 a2 : Int) : List (Int × Int) × Bool := if ChartP l ∧ EditP e p b1 b2 a1 a2 then moveF l p a1 a2 b1 b2 else ([], false)
theorem editP_swap {e p b1 b2 a1 a2 : Int} : EditP e p a1 a2 b1 b2 ↔ EditP e p b1 b2 a1 a2 := by
  constructor <;> intro h <;> omega
theorem undoF_eq {l : List (Int × Int)} {e p b1 b2 a1 a2 : Int} (h : EditP e p b1 b2 a1 a2) : undoF l e p b1 b2 a1 a2 = applyF l e p a1 a2 b1 b2 := by
  unfold undoF applyF
  by_cases hC : ChartP l
  · rw [if_pos ⟨hC, h⟩, if_pos ⟨hC, editP_swap.2 h⟩]
  · rw [if_neg (fun h => hC h.1), if_neg (fun h => hC h.1)]

theorem moveF_len (l : List (Int × Int)) (p b1 b2 a1 a2 : Int) : (moveF l p b1 b2 a1 a2).1.length ≤ l.length := by
  unfold moveF
  split
  · simp
  · simp
theorem applyF_len (l : List (Int × Int)) (e p b1 b2 a1 a2 : Int) : (applyF l e p b1 b2 a1 a2).1.length ≤ 1048576 := by
  unfold applyF
  split
  · rename_i h
    have := moveF_len l p b1 b2 a1 a2
    have := h.1.2.2
    omega
  · simp
theorem undoF_len (l : List (Int × Int)) (e p b1 b2 a1 a2 : Int) : (undoF l e p b1 b2 a1 a2).1.length ≤ 1048576 := by
  unfold undoF
  split
  · rename_i h
    have := moveF_len l p a1 a2 b1 b2
    have := h.1.2.2
    omega
  · simp
end Go.Proofs.Ytbfchmpigedkbaa
