/-
  Draws of paces and speeds.
-/
import Derived.Test.YthokcddabgojgaaCur
import Derived.Test.YthokcddabgojgaaTell
namespace Go.Proofs.Ythokcddabgojgaa
open Go.RowKit

abbrev Sm (v : Int) : Prop := -1000000000000 ≤ v ∧ v ≤ 1000000000000
set_option maxHeartbeats 4000000 in
theorem s_anyTempo {w0 w : World} {g m : Nat} (hC : CurP w0 w g m) (hm : m ≤ 1000000000) :
    Calls Try.prog 51 #[.pointer (some ⟨g, 0, none⟩)] w fun e w' => ∃ v : Int, e = .returned (.int .i64 v) ∧ Sm v ∧ CurP w0 w' g (m + 4) ∧ w.grownBy w' (some g) := by
  have hlt := CurP.lt hC
  go_enter Try.func51, Try.ntmps51
  go_wp2_with (first | (go_at_call 66; refine (c_among (w0 := w0) (by (repeat (first | with_reducible assumption | ((with_reducible apply CurP.set); rotate_left; (focus (first | (simp; done) | (simp; omega) | omega)); (focus (first | (simp; done) | (simp; omega) | omega))) | with_reducible apply CurP.alloc))) (by omega) (by simp [SmV]; try omega) (by first | rfl | simp) (by omega) (by omega) (by first | rfl | simp)).mono ?_; rintro e w' ⟨v, rfl, ⟨hv1, hv2, hvm⟩, hC, hgr⟩; have hlt := CurP.lt hC; have hcg := grow_cells hgr; have hfg := grow_frozen hgr; have hsz := hgr.size; (try simp at hsz); (have hn0 : ¬(w'.heap.size = g) := by omega); (have hn1 : ¬(w'.heap.size + 1 = g) := by omega); (have hn2 : ¬(w'.heap.size + 2 = g) := by omega)) | (go_at_call 41; refine (c_pick (w0 := w0) (by (repeat (first | with_reducible assumption | ((with_reducible apply CurP.set); rotate_left; (focus (first | (simp; done) | (simp; omega) | omega)); (focus (first | (simp; done) | (simp; omega) | omega))) | with_reducible apply CurP.alloc))) (by omega) (by omega)).mono ?_; rintro e w' ⟨v, rfl, ⟨hv1, hv2, hv3⟩, hC, hgr⟩; have hlt := CurP.lt hC; have hcg := grow_cells hgr; have hfg := grow_frozen hgr; have hsz := hgr.size; (try simp at hsz); (have hn0 : ¬(w'.heap.size = g) := by omega); (have hn1 : ¬(w'.heap.size + 1 = g) := by omega); (have hn2 : ¬(w'.heap.size + 2 = g) := by omega)))
  go_ret
  exact ⟨_, rfl, by omega, by (repeat (first | with_reducible assumption | ((with_reducible apply CurP.set); rotate_left; (focus (first | (simp; done) | (simp; omega) | omega)); (focus (first | (simp; done) | (simp; omega) | omega))) | with_reducible apply CurP.alloc)), by (repeat (first | with_reducible assumption | exact World.grownBy.refl _ _ | ((with_reducible refine grow_set ?_ ?_ _); rotate_left; (focus (first | (simp; done) | (simp; omega) | omega))) | with_reducible refine grow_alloc ?_ _ | (refine grownBy_trans ?_ (by with_reducible assumption))))⟩
set_option maxHeartbeats 4000000 in
theorem s_speedLimit {w0 w : World} {g m : Nat} (hC : CurP w0 w g m) (hm : m ≤ 1000000000) :
    Calls Try.prog 26 #[.pointer (some ⟨g, 0, none⟩)] w fun e w' => ∃ v : Int, e = .returned (.int .i64 v) ∧ Sm v ∧ CurP w0 w' g (m + 6) ∧ w.grownBy w' (some g) := by
  have hlt := CurP.lt hC
  go_enter Try.func26, Try.ntmps26
  go_wp2_with (first | (go_at_call 66; refine (c_among (w0 := w0) (by (repeat (first | with_reducible assumption | ((with_reducible apply CurP.set); rotate_left; (focus (first | (simp; done) | (simp; omega) | omega)); (focus (first | (simp; done) | (simp; omega) | omega))) | with_reducible apply CurP.alloc))) (by omega) (by simp [SmV]; try omega) (by first | rfl | simp) (by omega) (by omega) (by first | rfl | simp)).mono ?_; rintro e w' ⟨v, rfl, ⟨hv1, hv2, hvm⟩, hC, hgr⟩; have hlt := CurP.lt hC; have hcg := grow_cells hgr; have hfg := grow_frozen hgr; have hsz := hgr.size; (try simp at hsz); (have hn0 : ¬(w'.heap.size = g) := by omega); (have hn1 : ¬(w'.heap.size + 1 = g) := by omega); (have hn2 : ¬(w'.heap.size + 2 = g) := by omega)) | (go_at_call 41; refine (c_pick (w0 := w0) (by (repeat (first | with_reducible assumption | ((with_reducible apply CurP.set); rotate_left; (focus (first | (simp; done) | (simp; omega) | omega)); (focus (first | (simp; done) | (simp; omega) | omega))) | with_reducible apply CurP.alloc))) (by omega) (by omega)).mono ?_; rintro e w' ⟨v, rfl, ⟨hv1, hv2, hv3⟩, hC, hgr⟩; have hlt := CurP.lt hC; have hcg := grow_cells hgr; have hfg := grow_frozen hgr; have hsz := hgr.size; (try simp at hsz); (have hn0 : ¬(w'.heap.size = g) := by omega); (have hn1 : ¬(w'.heap.size + 1 = g) := by omega); (have hn2 : ¬(w'.heap.size + 2 = g) := by omega)))
  go_ret
  exact ⟨_, rfl, by omega, by (repeat (first | with_reducible assumption | ((with_reducible apply CurP.set); rotate_left; (focus (first | (simp; done) | (simp; omega) | omega)); (focus (first | (simp; done) | (simp; omega) | omega))) | with_reducible apply CurP.alloc)), by (repeat (first | with_reducible assumption | exact World.grownBy.refl _ _ | ((with_reducible refine grow_set ?_ ?_ _); rotate_left; (focus (first | (simp; done) | (simp; omega) | omega))) | with_reducible refine grow_alloc ?_ _ | (refine grownBy_trans ?_ (by with_reducible assumption))))⟩

set_option maxHeartbeats 8000000 in
set_option maxRecDepth 100000 in
theorem s_pace {w0 w : World} {g m : Nat} (hC : CurP w0 w g m) (hm : m ≤ 1000000000) :
    Calls Try.prog 25 #[.pointer (some ⟨g, 0, none⟩)] w fun e w' => ∃ a b : Int, e = .returned (.agg #[.int .i64 a, .int .i64 b]) ∧ (Sm a ∧ Sm b) ∧ CurP w0 w' g (m + 8) ∧ w.grownBy w' (some g) := by
  have hlt0 := CurP.lt hC
  have hg0 : ¬(w.heap.size = g) := by omega
  have hw0 := hC.gw.size
  go_enter Try.func25, Try.ntmps25
  go_wp2_with fail
  refine (c_among (w0 := w0) (by (repeat (first | with_reducible assumption | ((with_reducible apply CurP.set); rotate_left; (focus (first | (simp; done) | (simp; omega) | omega)); (focus (first | (simp; done) | (simp; omega) | omega))) | with_reducible apply CurP.alloc))) (by omega) (by simp [SmV]; try omega) (by first | rfl | simp) (by omega) (by omega) (by first | rfl | simp)).mono ?_
  rintro _ w1 ⟨a, rfl, ⟨ha1, ha2, -⟩, hC1, hr1⟩
  go_wp2_with fail
  refine (c_among (w0 := w0) (by (repeat (first | with_reducible assumption | ((with_reducible apply CurP.set); rotate_left; (focus (first | (simp; done) | (simp; omega) | omega)); (focus (first | (simp; done) | (simp; omega) | omega))) | with_reducible apply CurP.alloc))) (by omega) (by simp [SmV]; try omega) (by first | rfl | simp) (by omega) (by omega) (by first | rfl | simp)).mono ?_
  rintro _ w2 ⟨b, rfl, ⟨hb1, hb2, -⟩, hC2, hr2⟩
  have hlt2 := CurP.lt hC2
  have hg2 : ¬(w2.heap.size = g) := by omega
  have hz1 := hr1.size; (try simp at hz1)
  have hz2 := hr2.size; (try simp at hz2)
  have ka0 : w.heap.size < w1.heap.size := (by omega); have ka1 : w.heap.size < w1.heap.size + 1 := (by omega); have ka2 : w.heap.size < w2.heap.size := (by omega); have ka3 : w.heap.size < w2.heap.size + 1 := by omega
  have hce1 := grow_cells hr1
  have hce2 := grow_cells hr2
  have hfe1 := grow_frozen hr1
  have hfe2 := grow_frozen hr2
  go_wp2_with fail
  refine (c_pick (w0 := w0) (by (repeat (first | with_reducible assumption | ((with_reducible apply CurP.set); rotate_left; (focus (first | (simp; done) | (simp; omega) | omega)); (focus (first | (simp; done) | (simp; omega) | omega))) | with_reducible apply CurP.alloc))) (by omega) (by omega)).mono ?_
  rintro _ w3 ⟨v, rfl, ⟨hv1, hv2, hv3⟩, hC3, hr3⟩
  have hlt3 := CurP.lt hC3
  have hz5 := hr3.size; (try simp at hz5)
  have kb0 : w.heap.size < w3.heap.size := (by omega); have kb1 : w.heap.size < w3.heap.size + 1 := (by omega); have kb2 : w2.heap.size < w3.heap.size := (by omega); have kb3 : w2.heap.size < w3.heap.size + 1 := by omega
  have hce3 := grow_cells hr3
  have hfe3 := grow_frozen hr3
  have Bw3 : w3.heap[w.heap.size]? = some (.cells #[.int .i64 0, .int .i64 0] 26 (0, 0)) := by
    have b0 := heap_alloc_new w (.cells #[.int .i64 0, .int .i64 0] 26)
    have b1 := (Below.heap_alloc _ (.cells #[.int .i64 1, .int .i64 4, .int .i64 8, .int .i64 8, .int .i64 12, .int .i64 24] 3) w.heap.size (by simp)).trans b0
    have b2 := (hr1.block w.heap.size (by simp; omega) (by simpa using hg0)).trans b1
    have b3 := (Below.heap_alloc w1 (.cells #[.int .i64 40, .int .i64 60, .int .i64 120, .int .i64 120, .int .i64 160, .int .i64 220] 3) w.heap.size (by omega)).trans b2
    have b4 := (hr2.block w.heap.size (by simp; omega) (by simpa using hg0)).trans b3
    have b5 := (Below.heap_alloc w2 (.cells #[.int .i64 a, .int .i64 b] 26) w.heap.size (by omega)).trans b4
    exact (hr3.block w.heap.size (by simp; omega) (by simpa using hg0)).trans b5
  by_cases h0 : v = 0
  · have t0 : (v == 0) = true := by simp [h0]
    have h0 := Lib.hid h0
    go_wp2_with fail
    refine (c_among (w0 := w0) (by (repeat (first | with_reducible assumption | ((with_reducible apply CurP.set); rotate_left; (focus (first | (simp; done) | (simp; omega) | omega)); (focus (first | (simp; done) | (simp; omega) | omega))) | with_reducible apply CurP.alloc))) (by omega) (by simp [SmV]; try omega) (by first | rfl | simp) (by omega) (by omega) (by first | rfl | simp)).mono ?_
    rintro _ w4 ⟨u, rfl, ⟨hu1, hu2, -⟩, hC4, hr4⟩
    have hz8 := hr4.size; (try simp at hz8)
    have hce4 := grow_cells hr4
    have hfe4 := grow_frozen hr4
    have kc0 : w.heap.size < w4.heap.size := (by omega); have kc1 : w.heap.size < w4.heap.size + 1 := (by omega); have kc2 : w2.heap.size < w4.heap.size := (by omega); have kc3 : w2.heap.size < w4.heap.size + 1 := by omega
    go_wp2_with fail
    have BW := blk_set (blk_set (u := .int .i64 u) ((Below.heap_setCell w4 ⟨w2.heap.size, 0, none⟩ (.int .i64 u) w.heap.size (by show w.heap.size ≠ w2.heap.size; omega)).trans ((hr4.block w.heap.size (by simp; omega) (by simpa using hg0)).trans ((Below.heap_alloc w3 _ w.heap.size (by omega)).trans Bw3))) 0) 1 (.int .i64 b)
    simp only [List.setIfInBounds_toArray, List.set_cons_succ, List.set_cons_zero] at BW
    have q0 := cell_of_row _ _ 0 _ _ _ BW
    have q1 := cell_of_row _ _ 1 _ _ _ BW
    simp only [List.getElem?_toArray, List.getElem?_cons_zero, List.getElem?_cons_succ] at q0 q1
    exact bodyPost_ret (v := .agg #[.int .i64 u, .int .i64 b]) (by simp [results, Try.results25, go_sem, q0, q1]) rfl ⟨u, b, rfl, ⟨by omega, by omega⟩, by (repeat (first | with_reducible assumption | ((with_reducible apply CurP.set); rotate_left; (focus (first | (simp; done) | (simp; omega) | omega)); (focus (first | (simp; done) | (simp; omega) | omega))) | with_reducible apply CurP.alloc)), by (repeat (first | with_reducible assumption | exact World.grownBy.refl _ _ | ((with_reducible refine grow_set ?_ ?_ _); rotate_left; (focus (first | (simp; done) | (simp; omega) | omega))) | with_reducible refine grow_alloc ?_ _ | (refine grownBy_trans ?_ (by with_reducible assumption))))⟩
  have t0 : (v == 0) = false := by simp [h0]
  by_cases h1 : v = 1
  · have t1 : (v == 1) = true := by simp [h1]
    have h0 := Lib.hid h0
    have h1 := Lib.hid h1
    go_wp2_with fail
    refine (c_among (w0 := w0) (by (repeat (first | with_reducible assumption | ((with_reducible apply CurP.set); rotate_left; (focus (first | (simp; done) | (simp; omega) | omega)); (focus (first | (simp; done) | (simp; omega) | omega))) | with_reducible apply CurP.alloc))) (by omega) (by simp [SmV]; try omega) (by first | rfl | simp) (by omega) (by omega) (by first | rfl | simp)).mono ?_
    rintro _ w4 ⟨u, rfl, ⟨hu1, hu2, -⟩, hC4, hr4⟩
    have hz8 := hr4.size; (try simp at hz8)
    have hce4 := grow_cells hr4
    have hfe4 := grow_frozen hr4
    have kc0 : w.heap.size < w4.heap.size := (by omega); have kc1 : w.heap.size < w4.heap.size + 1 := (by omega); have kc2 : w2.heap.size < w4.heap.size := (by omega); have kc3 : w2.heap.size < w4.heap.size + 1 := by omega
    go_wp2_with fail
    have BW := blk_set (blk_set (u := .int .i64 a) ((Below.heap_setCell w4 ⟨w2.heap.size, 1, none⟩ (.int .i64 u) w.heap.size (by show w.heap.size ≠ w2.heap.size; omega)).trans ((hr4.block w.heap.size (by simp; omega) (by simpa using hg0)).trans ((Below.heap_alloc w3 _ w.heap.size (by omega)).trans Bw3))) 0) 1 (.int .i64 u)
    simp only [List.setIfInBounds_toArray, List.set_cons_succ, List.set_cons_zero] at BW
    have q0 := cell_of_row _ _ 0 _ _ _ BW
    have q1 := cell_of_row _ _ 1 _ _ _ BW
    simp only [List.getElem?_toArray, List.getElem?_cons_zero, List.getElem?_cons_succ] at q0 q1
    exact bodyPost_ret (v := .agg #[.int .i64 a, .int .i64 u]) (by simp [results, Try.results25, go_sem, q0, q1]) rfl ⟨a, u, rfl, ⟨by omega, by omega⟩, by (repeat (first | with_reducible assumption | ((with_reducible apply CurP.set); rotate_left; (focus (first | (simp; done) | (simp; omega) | omega)); (focus (first | (simp; done) | (simp; omega) | omega))) | with_reducible apply CurP.alloc)), by (repeat (first | with_reducible assumption | exact World.grownBy.refl _ _ | ((with_reducible refine grow_set ?_ ?_ _); rotate_left; (focus (first | (simp; done) | (simp; omega) | omega))) | with_reducible refine grow_alloc ?_ _ | (refine grownBy_trans ?_ (by with_reducible assumption))))⟩
  have t1 : (v == 1) = false := by simp [h1]
  go_wp2_with fail
  have BW := blk_set (blk_set (u := .int .i64 a) (Bw3) 0) 1 (.int .i64 b)
  simp only [List.setIfInBounds_toArray, List.set_cons_succ, List.set_cons_zero] at BW
  have q0 := cell_of_row _ _ 0 _ _ _ BW
  have q1 := cell_of_row _ _ 1 _ _ _ BW
  simp only [List.getElem?_toArray, List.getElem?_cons_zero, List.getElem?_cons_succ] at q0 q1
  exact bodyPost_ret (v := .agg #[.int .i64 a, .int .i64 b]) (by simp [results, Try.results25, go_sem, q0, q1]) rfl ⟨a, b, rfl, ⟨by omega, by omega⟩, (by (repeat (first | with_reducible assumption | ((with_reducible apply CurP.set); rotate_left; (focus (first | (simp; done) | (simp; omega) | omega)); (focus (first | (simp; done) | (simp; omega) | omega))) | with_reducible apply CurP.alloc)) : CurP w0 _ g (m + 6)).mono (by omega), by (repeat (first | with_reducible assumption | exact World.grownBy.refl _ _ | ((with_reducible refine grow_set ?_ ?_ _); rotate_left; (focus (first | (simp; done) | (simp; omega) | omega))) | with_reducible refine grow_alloc ?_ _ | (refine grownBy_trans ?_ (by with_reducible assumption))))⟩

end Go.Proofs.Ythokcddabgojgaa
