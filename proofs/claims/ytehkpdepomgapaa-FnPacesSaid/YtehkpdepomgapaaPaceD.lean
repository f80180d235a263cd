/-
  Draws of paces and speeds.
-/
import Derived.Test.YtehkpdepomgapaaCur
import Derived.Test.YtehkpdepomgapaaTell
namespace Go.Proofs.Ytehkpdepomgapaa
open Go.RowKit

abbrev Sm (v : Int) : Prop := -1000000000000 ≤ v ∧ v ≤ 1000000000000
set_option maxHeartbeats 4000000 in
theorem s_anyTempo {w0 w : World} {g m : Nat} (hC : CurP w0 w g m) (hm : m ≤ 1000000000) :
    Calls Try.prog 59 #[.pointer (some ⟨g, 0, none⟩)] w fun e w' => ∃ v : Int, e = .returned (.int .i64 v) ∧ Sm v ∧ CurP w0 w' g (m + 4) ∧ w.grownBy w' (some g) := by
  have hlt := CurP.lt hC
  go_enter Try.func59, Try.ntmps59
  go_wp2_with (first | (go_at_call 69; refine (c_among (w0 := w0) (by (repeat (first | with_reducible assumption | ((with_reducible apply CurP.set); rotate_left; (focus (first | (simp; done) | (simp; omega) | omega)); (focus (first | (simp; done) | (simp; omega) | omega))) | with_reducible apply CurP.alloc))) (by omega) (by simp [SmV]; try omega) (by first | rfl | simp) (by omega) (by omega) (by first | rfl | simp)).mono ?_; rintro e w' ⟨v, rfl, ⟨hv1, hv2, hvm⟩, hC, hgr⟩; have hlt := CurP.lt hC; have hcg := grow_cells hgr; have hfg := grow_frozen hgr; have hsz := hgr.size; (try simp at hsz); (have hn0 : ¬(w'.heap.size = g) := by omega); (have hn1 : ¬(w'.heap.size + 1 = g) := by omega); (have hn2 : ¬(w'.heap.size + 2 = g) := by omega)) | (go_at_call 93; refine (c_pick (w0 := w0) (by (repeat (first | with_reducible assumption | ((with_reducible apply CurP.set); rotate_left; (focus (first | (simp; done) | (simp; omega) | omega)); (focus (first | (simp; done) | (simp; omega) | omega))) | with_reducible apply CurP.alloc))) (by omega) (by omega)).mono ?_; rintro e w' ⟨v, rfl, ⟨hv1, hv2, hv3⟩, hC, hgr⟩; have hlt := CurP.lt hC; have hcg := grow_cells hgr; have hfg := grow_frozen hgr; have hsz := hgr.size; (try simp at hsz); (have hn0 : ¬(w'.heap.size = g) := by omega); (have hn1 : ¬(w'.heap.size + 1 = g) := by omega); (have hn2 : ¬(w'.heap.size + 2 = g) := by omega)))
  go_ret
  exact ⟨_, rfl, by omega, by (repeat (first | with_reducible assumption | ((with_reducible apply CurP.set); rotate_left; (focus (first | (simp; done) | (simp; omega) | omega)); (focus (first | (simp; done) | (simp; omega) | omega))) | with_reducible apply CurP.alloc)), by (repeat (first | with_reducible assumption | exact World.grownBy.refl _ _ | ((with_reducible refine grow_set ?_ ?_ _); rotate_left; (focus (first | (simp; done) | (simp; omega) | omega))) | with_reducible refine grow_alloc ?_ _ | (refine grownBy_trans ?_ (by with_reducible assumption))))⟩
set_option maxHeartbeats 4000000 in
theorem s_stepOf {w0 w : World} {g m : Nat} (hC : CurP w0 w g m) (hm : m ≤ 1000000000) :
    Calls Try.prog 66 #[.pointer (some ⟨g, 0, none⟩)] w fun e w' => ∃ v : Int, e = .returned (.int .i64 v) ∧ Sm v ∧ CurP w0 w' g (m + 4) ∧ w.grownBy w' (some g) := by
  have hlt := CurP.lt hC
  go_enter Try.func66, Try.ntmps66
  go_wp2_with (first | (go_at_call 69; refine (c_among (w0 := w0) (by (repeat (first | with_reducible assumption | ((with_reducible apply CurP.set); rotate_left; (focus (first | (simp; done) | (simp; omega) | omega)); (focus (first | (simp; done) | (simp; omega) | omega))) | with_reducible apply CurP.alloc))) (by omega) (by simp [SmV]; try omega) (by first | rfl | simp) (by omega) (by omega) (by first | rfl | simp)).mono ?_; rintro e w' ⟨v, rfl, ⟨hv1, hv2, hvm⟩, hC, hgr⟩; have hlt := CurP.lt hC; have hcg := grow_cells hgr; have hfg := grow_frozen hgr; have hsz := hgr.size; (try simp at hsz); (have hn0 : ¬(w'.heap.size = g) := by omega); (have hn1 : ¬(w'.heap.size + 1 = g) := by omega); (have hn2 : ¬(w'.heap.size + 2 = g) := by omega)) | (go_at_call 93; refine (c_pick (w0 := w0) (by (repeat (first | with_reducible assumption | ((with_reducible apply CurP.set); rotate_left; (focus (first | (simp; done) | (simp; omega) | omega)); (focus (first | (simp; done) | (simp; omega) | omega))) | with_reducible apply CurP.alloc))) (by omega) (by omega)).mono ?_; rintro e w' ⟨v, rfl, ⟨hv1, hv2, hv3⟩, hC, hgr⟩; have hlt := CurP.lt hC; have hcg := grow_cells hgr; have hfg := grow_frozen hgr; have hsz := hgr.size; (try simp at hsz); (have hn0 : ¬(w'.heap.size = g) := by omega); (have hn1 : ¬(w'.heap.size + 1 = g) := by omega); (have hn2 : ¬(w'.heap.size + 2 = g) := by omega)))
  go_ret
  exact ⟨_, rfl, by omega, by (repeat (first | with_reducible assumption | ((with_reducible apply CurP.set); rotate_left; (focus (first | (simp; done) | (simp; omega) | omega)); (focus (first | (simp; done) | (simp; omega) | omega))) | with_reducible apply CurP.alloc)), by (repeat (first | with_reducible assumption | exact World.grownBy.refl _ _ | ((with_reducible refine grow_set ?_ ?_ _); rotate_left; (focus (first | (simp; done) | (simp; omega) | omega))) | with_reducible refine grow_alloc ?_ _ | (refine grownBy_trans ?_ (by with_reducible assumption))))⟩
set_option maxHeartbeats 4000000 in
theorem s_speedLimit {w0 w : World} {g m : Nat} (hC : CurP w0 w g m) (hm : m ≤ 1000000000) :
    Calls Try.prog 60 #[.pointer (some ⟨g, 0, none⟩)] w fun e w' => ∃ v : Int, e = .returned (.int .i64 v) ∧ Sm v ∧ CurP w0 w' g (m + 6) ∧ w.grownBy w' (some g) := by
  have hlt := CurP.lt hC
  go_enter Try.func60, Try.ntmps60
  go_wp2_with (first | (go_at_call 69; refine (c_among (w0 := w0) (by (repeat (first | with_reducible assumption | ((with_reducible apply CurP.set); rotate_left; (focus (first | (simp; done) | (simp; omega) | omega)); (focus (first | (simp; done) | (simp; omega) | omega))) | with_reducible apply CurP.alloc))) (by omega) (by simp [SmV]; try omega) (by first | rfl | simp) (by omega) (by omega) (by first | rfl | simp)).mono ?_; rintro e w' ⟨v, rfl, ⟨hv1, hv2, hvm⟩, hC, hgr⟩; have hlt := CurP.lt hC; have hcg := grow_cells hgr; have hfg := grow_frozen hgr; have hsz := hgr.size; (try simp at hsz); (have hn0 : ¬(w'.heap.size = g) := by omega); (have hn1 : ¬(w'.heap.size + 1 = g) := by omega); (have hn2 : ¬(w'.heap.size + 2 = g) := by omega)) | (go_at_call 93; refine (c_pick (w0 := w0) (by (repeat (first | with_reducible assumption | ((with_reducible apply CurP.set); rotate_left; (focus (first | (simp; done) | (simp; omega) | omega)); (focus (first | (simp; done) | (simp; omega) | omega))) | with_reducible apply CurP.alloc))) (by omega) (by omega)).mono ?_; rintro e w' ⟨v, rfl, ⟨hv1, hv2, hv3⟩, hC, hgr⟩; have hlt := CurP.lt hC; have hcg := grow_cells hgr; have hfg := grow_frozen hgr; have hsz := hgr.size; (try simp at hsz); (have hn0 : ¬(w'.heap.size = g) := by omega); (have hn1 : ¬(w'.heap.size + 1 = g) := by omega); (have hn2 : ¬(w'.heap.size + 2 = g) := by omega)))
  go_ret
  exact ⟨_, rfl, by omega, by (repeat (first | with_reducible assumption | ((with_reducible apply CurP.set); rotate_left; (focus (first | (simp; done) | (simp; omega) | omega)); (focus (first | (simp; done) | (simp; omega) | omega))) | with_reducible apply CurP.alloc)), by (repeat (first | with_reducible assumption | exact World.grownBy.refl _ _ | ((with_reducible refine grow_set ?_ ?_ _); rotate_left; (focus (first | (simp; done) | (simp; omega) | omega))) | with_reducible refine grow_alloc ?_ _ | (refine grownBy_trans ?_ (by with_reducible assumption))))⟩

set_option maxHeartbeats 8000000 in
set_option maxRecDepth 100000 in
theorem s_pace {w0 w : World} {g m : Nat} (hC : CurP w0 w g m) (hm : m ≤ 1000000000) :
    Calls Try.prog 53 #[.pointer (some ⟨g, 0, none⟩)] w fun e w' => ∃ a b : Int, e = .returned (.agg #[.int .i64 a, .int .i64 b]) ∧ (Sm a ∧ Sm b) ∧ CurP w0 w' g (m + 8) ∧ w.grownBy w' (some g) := by
  have hlt0 := CurP.lt hC
  have hg0 : ¬(w.heap.size = g) := by omega
  have hw0 := hC.gw.size
  go_enter Try.func53, Try.ntmps53
  go_wp2_with fail
  refine (c_among (w0 := w0) (by (repeat (first | with_reducible assumption | ((with_reducible apply CurP.set); rotate_left; (focus (first | (simp; done) | (simp; omega) | omega)); (focus (first | (simp; done) | (simp; omega) | omega))) | with_reducible apply CurP.alloc))) (by omega) (by simp [SmV]; try omega) (by first | rfl | simp) (by omega) (by omega) (by first | rfl | simp)).mono ?_
  rintro _ w1 ⟨a, rfl, ⟨ha1, ha2, -⟩, hC1, hr1⟩
  go_wp2_with fail
  refine (c_among (w0 := w0) (by (repeat (first | with_reducible assumption | ((with_reducible apply CurP.set); rotate_left; (focus (first | (simp; done) | (simp; omega) | omega)); (focus (first | (simp; done) | (simp; omega) | omega))) | with_reducible apply CurP.alloc))) (by omega) (by simp [SmV]; try omega) (by first | rfl | simp) (by omega) (by omega) (by first | rfl | simp)).mono ?_
  rintro _ w2 ⟨b, rfl, ⟨hb1, hb2, -⟩, hC2, hr2⟩
  have hlt2 := CurP.lt hC2
  have hg2 : ¬(w2.heap.size = g) := by omega
  have hz1 := hr1.size; (try simp at hz1)
  have hz2 := hr2.size; (try simp at hz2)
  have ka0 : w.heap.size < w1.heap.size := (by omega); have ka1 : w.heap.size < w1.heap.size + 1 := (by omega); have ka2 : w.heap.size < w2.heap.size := (by omega); have ka3 : w.heap.size < w2.heap.size + 1 := by omega
  have hce1 := grow_cells hr1
  have hce2 := grow_cells hr2
  have hfe1 := grow_frozen hr1
  have hfe2 := grow_frozen hr2
  go_wp2_with fail
  refine (c_pick (w0 := w0) (by (repeat (first | with_reducible assumption | ((with_reducible apply CurP.set); rotate_left; (focus (first | (simp; done) | (simp; omega) | omega)); (focus (first | (simp; done) | (simp; omega) | omega))) | with_reducible apply CurP.alloc))) (by omega) (by omega)).mono ?_
  rintro _ w3 ⟨v, rfl, ⟨hv1, hv2, hv3⟩, hC3, hr3⟩
  have hlt3 := CurP.lt hC3
  have hz5 := hr3.size; (try simp at hz5)
  have kb0 : w.heap.size < w3.heap.size := (by omega); have kb1 : w.heap.size < w3.heap.size + 1 := (by omega); have kb2 : w2.heap.size < w3.heap.size := (by omega); have kb3 : w2.heap.size < w3.heap.size + 1 := by omega
  have hce3 := grow_cells hr3
  have hfe3 := grow_frozen hr3
  have Bw3 : w3.heap[w.heap.size]? = some (.cells #[.int .i64 0, .int .i64 0] 24 (0, 0)) := by
    have b0 := heap_alloc_new w (.cells #[.int .i64 0, .int .i64 0] 24)
    have b1 := (Below.heap_alloc _ (.cells #[.int .i64 1, .int .i64 4, .int .i64 8, .int .i64 8, .int .i64 12, .int .i64 24] 3) w.heap.size (by simp)).trans b0
    have b2 := (hr1.block w.heap.size (by simp; omega) (by simpa using hg0)).trans b1
    have b3 := (Below.heap_alloc w1 (.cells #[.int .i64 40, .int .i64 60, .int .i64 120, .int .i64 120, .int .i64 160, .int .i64 220] 3) w.heap.size (by omega)).trans b2
    have b4 := (hr2.block w.heap.size (by simp; omega) (by simpa using hg0)).trans b3
    have b5 := (Below.heap_alloc w2 (.cells #[.int .i64 a, .int .i64 b] 24) w.heap.size (by omega)).trans b4
    exact (hr3.block w.heap.size (by simp; omega) (by simpa using hg0)).trans b5
  by_cases h0 : v = 0
  · have t0 : (v == 0) = true := by simp [h0]
    have h0 := Lib.hid h0
    go_wp2_with fail
    refine (c_among (w0 := w0) (by (repeat (first | with_reducible assumption | ((with_reducible apply CurP.set); rotate_left; (focus (first | (simp; done) | (simp; omega) | omega)); (focus (first | (simp; done) | (simp; omega) | omega))) | with_reducible apply CurP.alloc))) (by omega) (by simp [SmV]; try omega) (by first | rfl | simp) (by omega) (by omega) (by first | rfl | simp)).mono ?_
    rintro _ w4 ⟨u, rfl, ⟨hu1, hu2, -⟩, hC4, hr4⟩
    have hz8 := hr4.size; (try simp at hz8)
    have hce4 := grow_cells hr4
    have hfe4 := grow_frozen hr4
    have kc0 : w.heap.size < w4.heap.size := (by omega); have kc1 : w.heap.size < w4.heap.size + 1 := (by omega); have kc2 : w2.heap.size < w4.heap.size := (by omega); have kc3 : w2.heap.size < w4.heap.size + 1 := by omega
    go_wp2_with fail
    have BW := blk_set (blk_set (u := .int .i64 u) ((Below.heap_setCell w4 ⟨w2.heap.size, 0, none⟩ (.int .i64 u) w.heap.size (by show w.heap.size ≠ w2.heap.size; omega)).trans ((hr4.block w.heap.size (by simp; omega) (by simpa using hg0)).trans ((Below.heap_alloc w3 _ w.heap.size (by omega)).trans Bw3))) 0) 1 (.int .i64 b)
    simp only [List.setIfInBounds_toArray, List.set_cons_succ, List.set_cons_zero] at BW
    have q0 := cell_of_row _ _ 0 _ _ _ BW
    have q1 := cell_of_row _ _ 1 _ _ _ BW
    simp only [List.getElem?_toArray, List.getElem?_cons_zero, List.getElem?_cons_succ] at q0 q1
    exact bodyPost_ret (v := .agg #[.int .i64 u, .int .i64 b]) (by simp [results, Try.results53, go_sem, q0, q1]) rfl ⟨u, b, rfl, ⟨by omega, by omega⟩, by (repeat (first | with_reducible assumption | ((with_reducible apply CurP.set); rotate_left; (focus (first | (simp; done) | (simp; omega) | omega)); (focus (first | (simp; done) | (simp; omega) | omega))) | with_reducible apply CurP.alloc)), by (repeat (first | with_reducible assumption | exact World.grownBy.refl _ _ | ((with_reducible refine grow_set ?_ ?_ _); rotate_left; (focus (first | (simp; done) | (simp; omega) | omega))) | with_reducible refine grow_alloc ?_ _ | (refine grownBy_trans ?_ (by with_reducible assumption))))⟩
  have t0 : (v == 0) = false := by simp [h0]
  by_cases h1 : v = 1
  · have t1 : (v == 1) = true := by simp [h1]
    have h0 := Lib.hid h0
    have h1 := Lib.hid h1
    go_wp2_with fail
    refine (c_among (w0 := w0) (by (repeat (first | with_reducible assumption | ((with_reducible apply CurP.set); rotate_left; (focus (first | (simp; done) | (simp; omega) | omega)); (focus (first | (simp; done) | (simp; omega) | omega))) | with_reducible apply CurP.alloc))) (by omega) (by simp [SmV]; try omega) (by first | rfl | simp) (by omega) (by omega) (by first | rfl | simp)).mono ?_
    rintro _ w4 ⟨u, rfl, ⟨hu1, hu2, -⟩, hC4, hr4⟩
    have hz8 := hr4.size; (try simp at hz8)
    have hce4 := grow_cells hr4
    have hfe4 := grow_frozen hr4
    have kc0 : w.heap.size < w4.heap.size := (by omega); have kc1 : w.heap.size < w4.heap.size + 1 := (by omega); have kc2 : w2.heap.size < w4.heap.size := (by omega); have kc3 : w2.heap.size < w4.heap.size + 1 := by omega
    go_wp2_with fail
    have BW := blk_set (blk_set (u := .int .i64 a) ((Below.heap_setCell w4 ⟨w2.heap.size, 1, none⟩ (.int .i64 u) w.heap.size (by show w.heap.size ≠ w2.heap.size; omega)).trans ((hr4.block w.heap.size (by simp; omega) (by simpa using hg0)).trans ((Below.heap_alloc w3 _ w.heap.size (by omega)).trans Bw3))) 0) 1 (.int .i64 u)
    simp only [List.setIfInBounds_toArray, List.set_cons_succ, List.set_cons_zero] at BW
    have q0 := cell_of_row _ _ 0 _ _ _ BW
    have q1 := cell_of_row _ _ 1 _ _ _ BW
    simp only [List.getElem?_toArray, List.getElem?_cons_zero, List.getElem?_cons_succ] at q0 q1
    exact bodyPost_ret (v := .agg #[.int .i64 a, .int .i64 u]) (by simp [results, Try.results53, go_sem, q0, q1]) rfl ⟨a, u, rfl, ⟨by omega, by omega⟩, by (repeat (first | with_reducible assumption | ((with_reducible apply CurP.set); rotate_left; (focus (first | (simp; done) | (simp; omega) | omega)); (focus (first | (simp; done) | (simp; omega) | omega))) | with_reducible apply CurP.alloc)), by (repeat (first | with_reducible assumption | exact World.grownBy.refl _ _ | ((with_reducible refine grow_set ?_ ?_ _); rotate_left; (focus (first | (simp; done) | (simp; omega) | omega))) | with_reducible refine grow_alloc ?_ _ | (refine grownBy_trans ?_ (by with_reducible assumption))))⟩
  have t1 : (v == 1) = false := by simp [h1]
  go_wp2_with fail
  have BW := blk_set (blk_set (u := .int .i64 a) (Bw3) 0) 1 (.int .i64 b)
  simp only [List.setIfInBounds_toArray, List.set_cons_succ, List.set_cons_zero] at BW
  have q0 := cell_of_row _ _ 0 _ _ _ BW
  have q1 := cell_of_row _ _ 1 _ _ _ BW
  simp only [List.getElem?_toArray, List.getElem?_cons_zero, List.getElem?_cons_succ] at q0 q1
  exact bodyPost_ret (v := .agg #[.int .i64 a, .int .i64 b]) (by simp [results, Try.results53, go_sem, q0, q1]) rfl ⟨a, b, rfl, ⟨by omega, by omega⟩, (by (repeat (first | with_reducible assumption | ((with_reducible apply CurP.set); rotate_left; (focus (first | (simp; done) | (simp; omega) | omega)); (focus (first | (simp; done) | (simp; omega) | omega))) | with_reducible apply CurP.alloc)) : CurP w0 _ g (m + 6)).mono (by omega), by (repeat (first | with_reducible assumption | exact World.grownBy.refl _ _ | ((with_reducible refine grow_set ?_ ?_ _); rotate_left; (focus (first | (simp; done) | (simp; omega) | omega))) | with_reducible refine grow_alloc ?_ _ | (refine grownBy_trans ?_ (by with_reducible assumption))))⟩

set_option maxHeartbeats 8000000 in
set_option maxRecDepth 100000 in
theorem d_CompareSpeeds (A : Option Addr) (cc : Nat) (bs : List UInt8) (w : World) (hl : bs.length ≤ 9223372036854775807) (hr : Rd w A bs) :
    Calls Try.prog 6 #[.slice A bs.length cc] w fun e w' => ∃ a b c d : Int, e = .returned (.tuple #[.agg #[.int .i64 a, .int .i64 b], .agg #[.int .i64 c, .int .i64 d]]) ∧ (Sm a ∧ Sm b ∧ Sm c ∧ Sm d) ∧ Gw w w' := by
  have hC0 : CurP w (((w.alloc (.cells #[.int .i64 0, .int .i64 0] 24)).alloc (.cells #[.int .i64 0, .int .i64 0] 24)).alloc (.cells #[.slice A bs.length cc, .int .i64 0, .int .u64 0] 85)) (w.heap.size + 1 + 1) 0 := by
    have := CurP.new (c := cc) hr hl (W := (w.alloc (.cells #[.int .i64 0, .int .i64 0] 24)).alloc (.cells #[.int .i64 0, .int .i64 0] 24)) (((Gw.refl w).alloc _).alloc _)
    simpa using this
  go_enter Try.func6, Try.ntmps6
  go_wp2_with fail
  refine (s_pace (w0 := w) hC0 (by omega)).mono ?_
  rintro _ w1 ⟨a, b, rfl, hab, hC1, hr1⟩
  go_wp2_with fail
  refine (s_pace (w0 := w) hC1 (by omega)).mono ?_
  rintro _ w2 ⟨c, d, rfl, hcd, hC2, hr2⟩
  have hz1 := hr1.size; (try simp at hz1)
  have hz2 := hr2.size; (try simp at hz2)
  have hG2 := hC2.gw
  have B1 : w2.heap[w.heap.size]? = some (.cells #[.int .i64 0, .int .i64 0] 24 (0, 0)) := by
    have b0 := heap_alloc_new w (.cells #[.int .i64 0, .int .i64 0] 24)
    have b1 := (Below.heap_alloc _ (.cells #[.int .i64 0, .int .i64 0] 24) w.heap.size (by simp)).trans b0
    have b2 := (Below.heap_alloc _ (.cells #[.slice A bs.length cc, .int .i64 0, .int .u64 0] 85) w.heap.size (by simp; omega)).trans b1
    have b3 := (hr1.block w.heap.size (by simp; omega) (by simp; omega)).trans b2
    exact (hr2.block w.heap.size (by omega) (by simp; omega)).trans b3
  have B2 : w2.heap[w.heap.size + 1]? = some (.cells #[.int .i64 0, .int .i64 0] 24 (0, 0)) := by
    have b1 := heap_alloc_new (w.alloc (.cells #[.int .i64 0, .int .i64 0] 24)) (.cells #[.int .i64 0, .int .i64 0] 24)
    rw [show (w.alloc (.cells #[.int .i64 0, .int .i64 0] 24)).heap.size = w.heap.size + 1 by simp] at b1
    have b2 := (Below.heap_alloc _ (.cells #[.slice A bs.length cc, .int .i64 0, .int .u64 0] 85) (w.heap.size + 1) (by simp)).trans b1
    have b3 := (hr1.block (w.heap.size + 1) (by simp; try omega) (by simp; try omega)).trans b2
    exact (hr2.block (w.heap.size + 1) (by omega) (by simp; try omega)).trans b3
  have hy1 : w.heap.size < w2.heap.size := by omega
  have hy2 : w.heap.size + 1 < w2.heap.size := by omega
  have c1 := cell_of_row _ _ 0 _ _ _ B1
  have c2 := cell_of_row _ _ 1 _ _ _ B1
  have c3 := cell_of_row _ _ 0 _ _ _ B2
  have c4 := cell_of_row _ _ 1 _ _ _ B2
  simp only [List.getElem?_toArray, List.getElem?_cons_zero, List.getElem?_cons_succ] at c1 c2 c3 c4
  have f1 : w2.frozen? ⟨w.heap.size, 0, none⟩ = false := by simp [World.frozen?, B1]
  have f2 : w2.frozen? ⟨w.heap.size, 1, none⟩ = false := by simp [World.frozen?, B1]
  have f3 : w2.frozen? ⟨w.heap.size + 1, 0, none⟩ = false := by simp [World.frozen?, B2]
  have f4 : w2.frozen? ⟨w.heap.size + 1, 1, none⟩ = false := by simp [World.frozen?, B2]
  have S1 := blk_set (blk_set (u := .int .i64 a) B1 0) 1 (.int .i64 b)
  have S2 := blk_set (blk_set (u := .int .i64 c) ((Below.heap_setCell _ ⟨w.heap.size, 1, none⟩ (.int .i64 b) (w.heap.size + 1) (by show w.heap.size + 1 ≠ w.heap.size; omega)).trans ((Below.heap_setCell w2 ⟨w.heap.size, 0, none⟩ (.int .i64 a) (w.heap.size + 1) (by show w.heap.size + 1 ≠ w.heap.size; omega)).trans B2)) 0) 1 (.int .i64 d)
  have S3 := (Below.heap_setCell _ ⟨w.heap.size + 1, 1, none⟩ (.int .i64 d) w.heap.size (by show w.heap.size ≠ w.heap.size + 1; omega)).trans ((Below.heap_setCell _ ⟨w.heap.size + 1, 0, none⟩ (.int .i64 c) w.heap.size (by show w.heap.size ≠ w.heap.size + 1; omega)).trans S1)
  simp only [List.setIfInBounds_toArray, List.set_cons_succ, List.set_cons_zero] at S2 S3
  have q0 := cell_of_row _ _ 0 _ _ _ S3
  have q1 := cell_of_row _ _ 1 _ _ _ S3
  have q2 := cell_of_row _ _ 0 _ _ _ S2
  have q3 := cell_of_row _ _ 1 _ _ _ S2
  simp only [List.getElem?_toArray, List.getElem?_cons_zero, List.getElem?_cons_succ] at q0 q1 q2 q3
  clear B1 B2 S1 S2 S3
  go_wp2_with fail
  exact bodyPost_ret (v := .tuple #[.agg #[.int .i64 a, .int .i64 b], .agg #[.int .i64 c, .int .i64 d]]) (by simp [results, Try.results6, go_sem, q0, q1, q2, q3]) rfl ⟨a, b, c, d, rfl, ⟨hab.1, hab.2, hcd.1, hcd.2⟩, by (repeat (first | with_reducible exact Gw.refl _ | with_reducible assumption | ((with_reducible refine Gw.set ?_ ?_ _); rotate_left; (focus (first | (simp; done) | (simp; omega) | omega))) | with_reducible refine Gw.alloc ?_ _ | with_reducible refine Gw.drew ?_ | with_reducible refine Gw.drewN ?_ _ | (refine Gw.trans ?_ (by with_reducible assumption))))⟩

set_option maxHeartbeats 4000000 in
theorem d_MostStep (A : Option Addr) (cc : Nat) (bs : List UInt8) (w : World) (hl : bs.length ≤ 9223372036854775807) (hr : Rd w A bs) :
    Calls Try.prog 11 #[.slice A bs.length cc] w fun e w' => ∃ a b : Int, e = .returned (.tuple #[.int .i64 a, .int .i64 b]) ∧ (Sm a ∧ Sm b) ∧ Gw w w' := by
  have hC0 := CurP.new (c := cc) hr hl (Gw.refl w)
  go_enter Try.func11, Try.ntmps11
  go_wp2_with fail
  refine (s_anyTempo (w0 := w) hC0 (by omega)).mono ?_
  rintro _ w1 ⟨a, rfl, ha, hC1, hr1⟩
  have hlt := hC1.lt
  have hz1 := hr1.size; (try simp at hz1)
  go_wp2_with fail
  refine (s_speedLimit (w0 := w) hC1 (by omega)).mono ?_
  rintro _ w2 ⟨b, rfl, hb, hC2, hr2⟩
  go_wp2_with fail
  go_ret2
  exact ⟨a, b, rfl, ⟨ha, hb⟩, hC2.gw⟩
set_option maxHeartbeats 4000000 in
theorem d_MostTempo (A : Option Addr) (cc : Nat) (bs : List UInt8) (w : World) (hl : bs.length ≤ 9223372036854775807) (hr : Rd w A bs) :
    Calls Try.prog 14 #[.slice A bs.length cc] w fun e w' => ∃ a b : Int, e = .returned (.tuple #[.int .i64 a, .int .i64 b]) ∧ (Sm a ∧ Sm b) ∧ Gw w w' := by
  have hC0 := CurP.new (c := cc) hr hl (Gw.refl w)
  go_enter Try.func14, Try.ntmps14
  go_wp2_with fail
  refine (s_stepOf (w0 := w) hC0 (by omega)).mono ?_
  rintro _ w1 ⟨a, rfl, ha, hC1, hr1⟩
  have hlt := hC1.lt
  have hz1 := hr1.size; (try simp at hz1)
  go_wp2_with fail
  refine (s_speedLimit (w0 := w) hC1 (by omega)).mono ?_
  rintro _ w2 ⟨b, rfl, hb, hC2, hr2⟩
  go_wp2_with fail
  go_ret2
  exact ⟨a, b, rfl, ⟨ha, hb⟩, hC2.gw⟩
set_option maxHeartbeats 4000000 in
theorem d_PacesAt (A : Option Addr) (cc : Nat) (bs : List UInt8) (w : World) (hl : bs.length ≤ 9223372036854775807) (hr : Rd w A bs) :
    Calls Try.prog 17 #[.slice A bs.length cc] w fun e w' => ∃ a b : Int, e = .returned (.tuple #[.int .i64 a, .int .i64 b]) ∧ (Sm a ∧ Sm b) ∧ Gw w w' := by
  have hC0 := CurP.new (c := cc) hr hl (Gw.refl w)
  go_enter Try.func17, Try.ntmps17
  go_wp2_with fail
  refine (s_speedLimit (w0 := w) hC0 (by omega)).mono ?_
  rintro _ w1 ⟨a, rfl, ha, hC1, hr1⟩
  go_wp2_with fail
  refine (c_among (w0 := w) (by (repeat (first | with_reducible assumption | ((with_reducible apply CurP.set); rotate_left; (focus (first | (simp; done) | (simp; omega) | omega)); (focus (first | (simp; done) | (simp; omega) | omega))) | with_reducible apply CurP.alloc))) (by omega) (by simp [SmV]; try omega) (by first | rfl | simp) (by omega) (by omega) (by first | rfl | simp)).mono ?_
  rintro _ w2 ⟨u, rfl, ⟨hu1, hu2, -⟩, hC2, hr2⟩
  go_wp2_with fail
  refine (c_among (w0 := w) (by (repeat (first | with_reducible assumption | ((with_reducible apply CurP.set); rotate_left; (focus (first | (simp; done) | (simp; omega) | omega)); (focus (first | (simp; done) | (simp; omega) | omega))) | with_reducible apply CurP.alloc))) (by omega) (by simp [SmV]; try omega) (by first | rfl | simp) (by omega) (by omega) (by first | rfl | simp)).mono ?_
  rintro _ w3 ⟨b, rfl, ⟨hb1, hb2, -⟩, hC3, hr3⟩
  go_wp2_with fail
  go_ret2
  exact ⟨a, b, rfl, ⟨ha, hb1, hb2⟩, hC3.gw⟩
end Go.Proofs.Ytehkpdepomgapaa
