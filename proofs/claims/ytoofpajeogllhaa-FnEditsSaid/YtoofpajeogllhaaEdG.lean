/-
  Draws of charts: a chart, any chart.
-/
import Derived.Test.YtoofpajeogllhaaEdF
namespace Go.Proofs.Ytoofpajeogllhaa
open Go.RowKit

set_option maxHeartbeats 4000000 in
theorem s_chart {w0 w : World} {g m : Nat} (hC : CurP w0 w g m) (hm : m ≤ 99000000) :
    Calls Try.prog 52 #[.pointer (some ⟨g, 0, none⟩)] w fun e w' => ∃ (l : List (Int × Int)) (A : Option Addr) (n c : Nat), e = .returned (.slice A n c) ∧ l.length = n ∧ (1 ≤ n ∧ n ≤ 12) ∧ (∀ x ∈ l, TmS x) ∧ w'.ownsRow w.heap.size 26 2 (.slice A n c) n (flat l) ∧ CurP w0 w' g (m + 6010) ∧ w.grownBy w' (some g) := by
  go_enter Try.func52, Try.ntmps52
  have hlt := CurP.lt hC
  go_wp2_with fail
  refine (s_one w0 _ g _ 20 (by omega) (by omega) hC).mono ?_
  rintro _ w1 ⟨b, rfl, hC1, hr1⟩
  have hs1 := hr1.size
  cases b with
  | true =>
    go_wp2_with fail
    refine (s_chartOf (w0 := w0) hC1 (by omega) 12 (by omega)).mono ?_
    rintro _ w2 ⟨l, A, c, rfl, hk, hB, hown, hC2, hr2⟩
    go_wp2_with fail
    go_ret
    exact ⟨l, A, 12, c, rfl, hk, by omega, hB, own_lower hown hs1, hC2.mono (by omega), grownBy_trans hr1 hr2⟩
  | false =>
    go_wp2_with fail
    refine (c_pick (w0 := w0) hC1 (by omega) (by omega)).mono ?_
    rintro _ w2 ⟨v, rfl, ⟨hv1, hv2, hv3⟩, hC2, hr2⟩
    have hv4 := hv3 (by omega)
    have hs2 := hr2.size
    obtain ⟨n, rfl⟩ : ∃ n : Nat, v = n := ⟨v.toNat, by omega⟩
    have w1n : IntKind.i64.wrap (1 + (n : Int)) = ((1 + n : Nat) : Int) := by rw [IntWalk.i64_in _ (by omega)]; omega
    clear hv3
    go_wp2_with fail
    refine (s_chartOf (w0 := w0) hC2 (by omega) (1 + n) (by omega)).mono ?_
    rintro _ w3 ⟨l, A, c, rfl, hk, hB, hown, hC3, hr3⟩
    go_wp2_with fail
    go_ret
    exact ⟨l, A, 1 + n, c, rfl, hk, by omega, hB, own_lower hown (by omega), hC3.mono (by omega), grownBy_trans hr1 (grownBy_trans hr2 hr3)⟩

set_option maxHeartbeats 8000000 in
set_option maxRecDepth 20000 in
theorem s_anyChart {w0 w : World} {g m : Nat} (hC : CurP w0 w g m) (hm : m ≤ 90000000) :
    Calls Try.prog 25 #[.pointer (some ⟨g, 0, none⟩)] w fun e w' => ∃ (l : List (Int × Int)) (A : Option Addr) (n c : Nat), e = .returned (.slice A n c) ∧ l.length = n ∧ n ≤ 13 ∧ (∀ x ∈ l, TmS x) ∧ w'.ownsRow w.heap.size 26 2 (.slice A n c) n (flat l) ∧ CurP w0 w' g (m + 13000) ∧ w.grownBy w' (some g) := by
  have hlt := CurP.lt hC
  have hw0 := hC.gw.size
  go_enter Try.func25, Try.ntmps25
  go_wp2_with fail
  refine (s_chart (w0 := w0) hC (by omega)).mono ?_
  rintro _ w1 ⟨l, A, n, c, rfl, hk, ⟨hn1, hn2⟩, hB, hown, hC1, hr1⟩
  have hk := Lib.hid hk
  have hB := Lib.hid hB
  obtain ⟨gg, hA, hg1, hg2⟩ := own_addr hown (by omega)
  subst hA
  have hgne : ¬(gg = g) := by omega
  go_wp2_with fail
  refine (c_pick (w0 := w0) hC1 (by omega) (by omega)).mono ?_
  rintro _ w2 ⟨i0, rfl, ⟨hi1, hi2, hi3⟩, hC2, hr2⟩
  have hi4 := hi3 (by omega)
  obtain ⟨i, rfl⟩ : ∃ i : Nat, i0 = i := ⟨i0.toNat, by omega⟩
  have hlti : i < n := by omega
  obtain ⟨x, hx⟩ := get_of_lt (show i < l.length by rw [hk.out]; exact hlti)
  obtain ⟨y, hy⟩ := get_of_lt (show 0 < l.length by rw [hk.out]; omega)
  have Hx := Lib.hid hx
  have Hy := Lib.hid hy
  have hown2 := own_grow hown hr2 hlt
  have hgw2 := grownBy_trans hr1 hr2
  clear hx hy hi3 hown
  go_wp2_with fail
  refine (c_pick (w0 := w0) hC2 (by omega) (by omega)).mono ?_
  rintro _ w3 ⟨v, rfl, ⟨hv1, hv2, -⟩, hC3, hr3⟩
  have hgw3 : w.grownBy w3 (some g) := grownBy_trans hgw2 hr3
  have hown3 := own_grow hown2 hr3 hlt
  have hgs3 := hgw3.size
  obtain ⟨x1, x2⟩ := x
  obtain ⟨y1, y2⟩ := y
  clear hown2
  by_cases v0 : v = 0
  · subst v0
    go_wp2_with fail
    refine (s_anySpot (w0 := w0) hC3 (by omega)).mono ?_
    rintro _ w4 ⟨a, b, rfl, hab, hC4, hr4⟩
    have hgw4 : w.grownBy w4 (some g) := grownBy_trans hgw3 hr4
    have hown4 := own_grow hown3 hr4 hlt
    have hce := own_cellsG (α := Int × Int) hk.out hown4 Hx.out
    clear hown3
    have e0 : w4.cell? ⟨gg, i * 2, none⟩ = some (.int .i64 x1) := hce 0 _ rfl
    have e1 : w4.cell? ⟨gg, i * 2 + 1, none⟩ = some (.int .i64 x2) := hce 1 _ rfl
    have f0 := World.ownsRow.frozenAt hown4 (i * 2)
    have f1 := World.ownsRow.frozenAt hown4 (i * 2 + 1)
    have Hs := Lib.hid (own_set2 (k := i) hown4 (a, b)).1
    have hl2 : Hid ((l.set i (a, b)).length = n) := by unfold Hid; rw [List.length_set, hk.out]
    have hCs := Lib.hid ((CurP.set hC4 (p := ⟨gg, i * 2, none⟩) (by show w0.heap.size ≤ gg; omega) (by exact hgne) (.int .i64 a)).set (p := ⟨gg, i * 2 + 1, none⟩) (by show w0.heap.size ≤ gg; omega) (by exact hgne) (.int .i64 b))
    have hgs := Lib.hid (grow_set (grow_set hgw4 (p := ⟨gg, i * 2, none⟩) (by exact hg1) (.int .i64 a)) (p := ⟨gg, i * 2 + 1, none⟩) (by exact hg1) (.int .i64 b))
    clear hce
    go_wp2_with fail
    go_ret
    exact ⟨l.set i (a, b), some ⟨gg, 0, none⟩, n, c, rfl, hl2.out, by omega, all_set hB.out i hab, Hs.out, hCs.out.mono (by omega), hgs.out⟩
  by_cases v1 : v = 1
  · subst v1
    have hce := own_cellsG (α := Int × Int) hk.out hown3 Hx.out
    have hcf := own_cellsG (α := Int × Int) hk.out hown3 Hy.out
    have d0 : w3.cell? ⟨gg, 0, none⟩ = some (.int .i64 y1) := hcf 0 _ rfl
    have d1 : w3.cell? ⟨gg, 1, none⟩ = some (.int .i64 y2) := hcf 1 _ rfl
    have hyb := hB.out _ (mem_of_get Hy.out)
    clear hcf
    have e0 : w3.cell? ⟨gg, i * 2, none⟩ = some (.int .i64 x1) := hce 0 _ rfl
    have e1 : w3.cell? ⟨gg, i * 2 + 1, none⟩ = some (.int .i64 x2) := hce 1 _ rfl
    have f0 := World.ownsRow.frozenAt hown3 (i * 2)
    have f1 := World.ownsRow.frozenAt hown3 (i * 2 + 1)
    have Hs := Lib.hid (own_set2 (k := i) hown3 (y1, y2)).1
    have hl2 : Hid ((l.set i (y1, y2)).length = n) := by unfold Hid; rw [List.length_set, hk.out]
    have hCs := Lib.hid ((CurP.set hC3 (p := ⟨gg, i * 2, none⟩) (by show w0.heap.size ≤ gg; omega) (by exact hgne) (.int .i64 y1)).set (p := ⟨gg, i * 2 + 1, none⟩) (by show w0.heap.size ≤ gg; omega) (by exact hgne) (.int .i64 y2))
    have hgs := Lib.hid (grow_set (grow_set hgw3 (p := ⟨gg, i * 2, none⟩) (by exact hg1) (.int .i64 y1)) (p := ⟨gg, i * 2 + 1, none⟩) (by exact hg1) (.int .i64 y2))
    clear hce
    go_wp2_with fail
    go_ret
    exact ⟨l.set i (y1, y2), some ⟨gg, 0, none⟩, n, c, rfl, hl2.out, by omega, all_set hB.out i hyb, Hs.out, hCs.out.mono (by omega), hgs.out⟩
  have b0 : (v == 0) = false := by simp [v0]
  have b1 : (v == 1) = false := by simp [v1]
  by_cases v2 : v = 2
  · subst v2
    go_wp2_with fail
    go_ret
    exact ⟨[], none, 0, 0, rfl, rfl, by omega, all_nil, World.ownsRow_nil _ _ _ _, hC3.mono (by omega), hgw3⟩
  have b2 : (v == 2) = false := by simp [v2]
  by_cases v3 : v = 3
  · subst v3
    go_wp2_with fail
    refine (s_chartOf (w0 := w0) hC3 (by omega) 13 (by omega)).mono ?_
    rintro _ w4 ⟨l', A', c', rfl, hk', hB', hown', hC4, hr4⟩
    go_wp2_with fail
    go_ret
    exact ⟨l', A', 13, c', rfl, hk', by omega, hB', own_lower hown' hgs3, hC4.mono (by omega), grownBy_trans hgw3 hr4⟩
  have b3 : (v == 3) = false := by simp [v3]
  go_wp2_with fail
  go_ret
  exact ⟨l, some ⟨gg, 0, none⟩, n, c, rfl, hk.out, by omega, hB.out, hown3, hC3.mono (by omega), hgw3⟩
end Go.Proofs.Ytoofpajeogllhaa
