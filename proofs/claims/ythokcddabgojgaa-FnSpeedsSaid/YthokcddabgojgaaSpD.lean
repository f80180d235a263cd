/-
  Draws of moves: one.
-/
import Derived.Test.YthokcddabgojgaaBoxs
import Derived.Test.YthokcddabgojgaaPaceD
import Derived.Test.YthokcddabgojgaaScal
import Derived.BigRegion
namespace Go.Proofs.Ythokcddabgojgaa
open Go.RowKit

abbrev MvB (a b c d n : Int) : Prop := ((-10000 ≤ a ∧ a ≤ 10000) ∧ -10000 ≤ b ∧ b ≤ 10000) ∧ ((-10000 ≤ c ∧ c ≤ 10000) ∧ -10000 ≤ d ∧ d ≤ 10000) ∧ 0 ≤ n ∧ n ≤ 65
set_option maxHeartbeats 8000000 in
set_option maxRecDepth 20000 in
theorem s_move {w0 w : World} {g m : Nat} (hC : CurP w0 w g m) (hm : m ≤ 100000000) :
    Calls Try.prog 24 #[.pointer (some ⟨g, 0, none⟩)] w fun e w' => ∃ a b c d n : Int, e = .returned (.agg #[.int .i64 a, .int .i64 b, .int .i64 c, .int .i64 d, .int .i64 n]) ∧ MvB a b c d n ∧ CurP w0 w' g (m + 100) ∧ w.grownBy w' (some g) := by
  have S1 := (Bxs.start hC).new #[.int .i64 0, .int .i64 0, .int .i64 0, .int .i64 0, .int .i64 0] 39
  simp only [List.nil_append] at S1
  go_enter Try.func24, Try.ntmps24
  go_wp2_with fail
  refine (s_spot (w0 := w0) S1.cur (by omega)).mono ?_
  rintro _ w1 ⟨x, y, rfl, hxy, hC1, hr1⟩
  have S2 := S1.call hC1 hr1
  clear S1 hC1 hr1
  go_wp2_with fail
  refine (c_pick (w0 := w0) S2.cur (by omega) (by omega)).mono ?_
  rintro _ w2 ⟨v, rfl, ⟨hv1, hv2, hv3⟩, hC2, hr2⟩
  have hv4 := hv3 (by omega)
  have S3 := S2.call hC2 hr2
  have wv : IntKind.i64.wrap (1 + v) = 1 + v := IntWalk.i64_in _ (by omega)
  clear S2 hC2 hr2 hv3
  go_wp2_with fail
  refine (c_among (w0 := w0) S3.cur (by omega) (by simp [SmV]; try omega) (by first | rfl | simp) (by omega) (by omega) (by first | rfl | simp)).mono ?_
  rintro _ w3 ⟨n, rfl, ⟨-, -, hnm⟩, hC3, hr3⟩
  have hnb : 0 ≤ n ∧ n ≤ 65 := by
    simp at hnm
    omega
  have S4 := (((S3.alloc _).call hC3 hr3).new #[.int .i64 x, .int .i64 y, .int .i64 0, .int .i64 0, .int .i64 n] 39).drew
  simp only [List.cons_append, List.nil_append] at S4
  clear S3 hC3 hr3 hnm
  have k0 := (S4.at 1 rfl).cell 0 rfl
  have k1 := (S4.at 1 rfl).cell 1 rfl
  have kS := And.intro k0 k1
  have K0 := Lib.hid S4
  clear S4 k0 k1
  generalize hM : w3.heap.size = M at *
  generalize hR : w.heap.size = R at *
  go_upto_region 2 with fail
  go_region_held3 (fun u => u.cell? ⟨M, 0, none⟩ = some (.int .i64 x) ∧ u.cell? ⟨M, 1, none⟩ = some (.int .i64 y)) (first | with_reducible assumption | go_keep)
    (first
      | (have K := K0.out; go_at_call 41; refine (c_pick (w0 := w0) K.cur (by omega) (by omega)).mono ?_; rintro _ wa ⟨p, rfl, ⟨hp1, hp2, -⟩, hCa, hra⟩; have KA := Lib.hid (K.call hCa hra); clear K K0 kS hCa hra; have kS := And.intro ((KA.out.at 1 rfl).cell 0 rfl) ((KA.out.at 1 rfl).cell 1 rfl))
      | (have K := KA.out; go_at_call 66; refine (c_among (w0 := w0) K.cur (by omega) (by simp [SmV]; try omega) (by first | rfl | simp) (by omega) (by omega) (by first | rfl | simp)).mono ?_; rintro _ wb ⟨q, rfl, ⟨-, -, hqm⟩, hCb, hrb⟩; have hqb : 0 ≤ q ∧ q ≤ 65535 := (by simp at hqm; omega); have KB := Lib.hid ((K.alloc _).call hCb hrb); clear K KA kS hCb hrb hqm; have wq : IntKind.i64.wrap (x + q) = x + q := IntWalk.i64_in _ (by omega); have kS := And.intro ((KB.out.at 1 rfl).cell 0 rfl) ((KB.out.at 1 rfl).cell 1 rfl))
      | (have K := KB.out; go_at_call 67; refine (s_l1Least _ _ _).mono ?_; rintro e wc ⟨rfl, rfl⟩)
      | (have K := KB.out; go_at_call 41; refine (c_pick (w0 := w0) K.cur (by omega) (by omega)).mono ?_; rintro _ wd ⟨p', rfl, ⟨hp1', hp2', -⟩, hCd, hrd⟩; have KD := Lib.hid (K.call hCd hrd); clear K KB kS hCd hrd; have kS := And.intro ((KD.out.at 1 rfl).cell 0 rfl) ((KD.out.at 1 rfl).cell 1 rfl))
      | (have K := KD.out; go_at_call 66; refine (c_among (w0 := w0) K.cur (by omega) (by simp [SmV]; try omega) (by first | rfl | simp) (by omega) (by omega) (by first | rfl | simp)).mono ?_; rintro _ we ⟨q', rfl, ⟨-, -, hqm⟩, hCe, hre⟩; have hqb' : 0 ≤ q' ∧ q' ≤ 65535 := (by simp at hqm; omega); have KE := Lib.hid ((K.alloc _).call hCe hre); clear K KD kS hCe hre hqm; have wq' : IntKind.i64.wrap (y - q') = y - q' := IntWalk.i64_in _ (by omega); have kS := And.intro ((KE.out.at 1 rfl).cell 0 rfl) ((KE.out.at 1 rfl).cell 1 rfl))
      | (have K := KE.out; go_at_call 42; refine (s_l1Most _ _ _).mono ?_; rintro e wf ⟨rfl, rfl⟩; have z2 := (K.at 1 rfl).cell 2 rfl; have z3 := (K.at 1 rfl).cell 3 rfl; have y2 := (K.at 1 rfl).free 2; have y3 := (K.at 1 rfl).free 3; have KF := Lib.hid ((K.set 1 rfl 2 (.int .i64 (min 1280 (x + q)))).set 1 rfl 3 (.int .i64 (max 0 (y - q')))); have kF := And.intro ((KF.out.at 1 rfl).cell 0 rfl) ((KF.out.at 1 rfl).cell 1 rfl))
      | fail)
  have hX : 0 ≤ min 1280 (x + q) ∧ min 1280 (x + q) ≤ 1280 := by omega
  have hY : 0 ≤ max 0 (y - q') ∧ max 0 (y - q') ≤ 672 := by omega
  clear z2 z3 y2 y3 K kF
  generalize min 1280 (x + q) = X at *
  generalize max 0 (y - q') = Y at *
  generalize (we.setCell ⟨M, 2, none⟩ (.int .i64 X)).setCell ⟨M, 3, none⟩ (.int .i64 Y) = w5 at *
  have hx2 : 0 ≤ x ∧ x ≤ 1280 := hxy.1
  have hy2 : 0 ≤ y ∧ y ≤ 672 := hxy.2
  have S5 := KF.out
  rename_i hHeld9
  dsimp only [List.set_cons_zero, List.set_cons_succ] at S5
  clear KF KE kS hHeld9
  go_wp2_with fail
  refine (c_pick (w0 := w0) S5.cur (by omega) (by omega)).mono ?_
  rintro _ w6 ⟨s, rfl, -, hC6, hr6⟩
  have S6 := Lib.hid (S5.call hC6 hr6)
  clear S5 hC6 hr6
  by_cases v0 : s = 0
  · subst v0
    go_wp2_with fail
    refine (c_among (w0 := w0) S6.out.cur (by omega) (by simp [SmV]; try omega) (by first | rfl | simp) (by omega) (by omega) (by first | rfl | simp)).mono ?_
    rintro _ w7 ⟨n', rfl, ⟨-, -, hnm⟩, hC7, hr7⟩
    have hnb' : 0 ≤ n' ∧ n' ≤ 65 := by
      simp at hnm
      omega
    clear hnm
    have SE := ((S6.out.alloc _).call hC7 hr7)
    have nRM := SE.ne 0 1 rfl rfl (by decide)
    have nMR := SE.ne 1 0 rfl rfl (by decide)
    have z0 := (SE.at 1 rfl).cell 0 rfl
    have x0 := (SE.at 0 rfl).cell 0 rfl
    have y0 := (SE.at 0 rfl).free 0
    have z1 := (SE.at 1 rfl).cell 1 rfl
    have x1 := (SE.at 0 rfl).cell 1 rfl
    have y1 := (SE.at 0 rfl).free 1
    have z2 := (SE.at 1 rfl).cell 2 rfl
    have x2 := (SE.at 0 rfl).cell 2 rfl
    have y2 := (SE.at 0 rfl).free 2
    have z3 := (SE.at 1 rfl).cell 3 rfl
    have x3 := (SE.at 0 rfl).cell 3 rfl
    have y3 := (SE.at 0 rfl).free 3
    have z4 := (SE.at 1 rfl).cell 4 rfl
    have x4 := (SE.at 0 rfl).cell 4 rfl
    have y4 := (SE.at 0 rfl).free 4
    have u4 := (SE.at 1 rfl).free 4
    have hq := Lib.hid ((((((SE.set 1 rfl 4 (.int .i64 n')).set 0 rfl 0 (.int .i64 x)).set 0 rfl 1 (.int .i64 y)).set 0 rfl 2 (.int .i64 X)).set 0 rfl 3 (.int .i64 Y)).set 0 rfl 4 (.int .i64 n'))
    clear SE
    go_wp2_with fail
    have q0 := (hq.out.at 0 rfl).cell 0 rfl
    have q1 := (hq.out.at 0 rfl).cell 1 rfl
    have q2 := (hq.out.at 0 rfl).cell 2 rfl
    have q3 := (hq.out.at 0 rfl).cell 3 rfl
    have q4 := (hq.out.at 0 rfl).cell 4 rfl
    exact bodyPost_ret (v := .agg #[.int .i64 x, .int .i64 y, .int .i64 X, .int .i64 Y, .int .i64 n']) (by simp [results, Try.results24, go_sem, q0, q1, q2, q3, q4]) rfl ⟨x, y, X, Y, n', rfl, ⟨⟨by omega, by omega⟩, ⟨by omega, by omega⟩, by omega⟩, hq.out.cur.mono (by omega), hq.out.grow⟩
  have b0 : (s == 0) = false := by simp [v0]
  by_cases v1 : s = 1
  · subst v1
    go_wp2_with fail
    refine (s_anySpot (w0 := w0) S6.out.cur (by omega)).mono ?_
    rintro _ w7 ⟨x', y', rfl, hxy', hC7, hr7⟩
    have SE := (S6.out.call hC7 hr7)
    have nRM := SE.ne 0 1 rfl rfl (by decide)
    have nMR := SE.ne 1 0 rfl rfl (by decide)
    have z0 := (SE.at 1 rfl).cell 0 rfl
    have x0 := (SE.at 0 rfl).cell 0 rfl
    have y0 := (SE.at 0 rfl).free 0
    have z1 := (SE.at 1 rfl).cell 1 rfl
    have x1 := (SE.at 0 rfl).cell 1 rfl
    have y1 := (SE.at 0 rfl).free 1
    have z2 := (SE.at 1 rfl).cell 2 rfl
    have x2 := (SE.at 0 rfl).cell 2 rfl
    have y2 := (SE.at 0 rfl).free 2
    have z3 := (SE.at 1 rfl).cell 3 rfl
    have x3 := (SE.at 0 rfl).cell 3 rfl
    have y3 := (SE.at 0 rfl).free 3
    have z4 := (SE.at 1 rfl).cell 4 rfl
    have x4 := (SE.at 0 rfl).cell 4 rfl
    have y4 := (SE.at 0 rfl).free 4
    have u0 := (SE.at 1 rfl).free 0
    have u1 := (SE.at 1 rfl).free 1
    have hq := Lib.hid (((((((SE.set 1 rfl 0 (.int .i64 x')).set 1 rfl 1 (.int .i64 y')).set 0 rfl 0 (.int .i64 x')).set 0 rfl 1 (.int .i64 y')).set 0 rfl 2 (.int .i64 X)).set 0 rfl 3 (.int .i64 Y)).set 0 rfl 4 (.int .i64 n))
    clear SE
    go_wp2_with fail
    have q0 := (hq.out.at 0 rfl).cell 0 rfl
    have q1 := (hq.out.at 0 rfl).cell 1 rfl
    have q2 := (hq.out.at 0 rfl).cell 2 rfl
    have q3 := (hq.out.at 0 rfl).cell 3 rfl
    have q4 := (hq.out.at 0 rfl).cell 4 rfl
    exact bodyPost_ret (v := .agg #[.int .i64 x', .int .i64 y', .int .i64 X, .int .i64 Y, .int .i64 n]) (by simp [results, Try.results24, go_sem, q0, q1, q2, q3, q4]) rfl ⟨x', y', X, Y, n, rfl, ⟨hxy', ⟨by omega, by omega⟩, by omega⟩, hq.out.cur.mono (by omega), hq.out.grow⟩
  have b1 : (s == 1) = false := by simp [v1]
  by_cases v2 : s = 2
  · subst v2
    go_wp2_with fail
    refine (s_anySpot (w0 := w0) S6.out.cur (by omega)).mono ?_
    rintro _ w7 ⟨x', y', rfl, hxy', hC7, hr7⟩
    have SE := (S6.out.call hC7 hr7)
    have nRM := SE.ne 0 1 rfl rfl (by decide)
    have nMR := SE.ne 1 0 rfl rfl (by decide)
    have z0 := (SE.at 1 rfl).cell 0 rfl
    have x0 := (SE.at 0 rfl).cell 0 rfl
    have y0 := (SE.at 0 rfl).free 0
    have z1 := (SE.at 1 rfl).cell 1 rfl
    have x1 := (SE.at 0 rfl).cell 1 rfl
    have y1 := (SE.at 0 rfl).free 1
    have z2 := (SE.at 1 rfl).cell 2 rfl
    have x2 := (SE.at 0 rfl).cell 2 rfl
    have y2 := (SE.at 0 rfl).free 2
    have z3 := (SE.at 1 rfl).cell 3 rfl
    have x3 := (SE.at 0 rfl).cell 3 rfl
    have y3 := (SE.at 0 rfl).free 3
    have z4 := (SE.at 1 rfl).cell 4 rfl
    have x4 := (SE.at 0 rfl).cell 4 rfl
    have y4 := (SE.at 0 rfl).free 4
    have u2 := (SE.at 1 rfl).free 2
    have u3 := (SE.at 1 rfl).free 3
    have hq := Lib.hid (((((((SE.set 1 rfl 2 (.int .i64 x')).set 1 rfl 3 (.int .i64 y')).set 0 rfl 0 (.int .i64 x)).set 0 rfl 1 (.int .i64 y)).set 0 rfl 2 (.int .i64 x')).set 0 rfl 3 (.int .i64 y')).set 0 rfl 4 (.int .i64 n))
    clear SE
    go_wp2_with fail
    have q0 := (hq.out.at 0 rfl).cell 0 rfl
    have q1 := (hq.out.at 0 rfl).cell 1 rfl
    have q2 := (hq.out.at 0 rfl).cell 2 rfl
    have q3 := (hq.out.at 0 rfl).cell 3 rfl
    have q4 := (hq.out.at 0 rfl).cell 4 rfl
    exact bodyPost_ret (v := .agg #[.int .i64 x, .int .i64 y, .int .i64 x', .int .i64 y', .int .i64 n]) (by simp [results, Try.results24, go_sem, q0, q1, q2, q3, q4]) rfl ⟨x, y, x', y', n, rfl, ⟨⟨by omega, by omega⟩, hxy', by omega⟩, hq.out.cur.mono (by omega), hq.out.grow⟩
  have b2 : (s == 2) = false := by simp [v2]
  have SE := S6.out
  have nRM := SE.ne 0 1 rfl rfl (by decide)
  have nMR := SE.ne 1 0 rfl rfl (by decide)
  have z0 := (SE.at 1 rfl).cell 0 rfl
  have x0 := (SE.at 0 rfl).cell 0 rfl
  have y0 := (SE.at 0 rfl).free 0
  have z1 := (SE.at 1 rfl).cell 1 rfl
  have x1 := (SE.at 0 rfl).cell 1 rfl
  have y1 := (SE.at 0 rfl).free 1
  have z2 := (SE.at 1 rfl).cell 2 rfl
  have x2 := (SE.at 0 rfl).cell 2 rfl
  have y2 := (SE.at 0 rfl).free 2
  have z3 := (SE.at 1 rfl).cell 3 rfl
  have x3 := (SE.at 0 rfl).cell 3 rfl
  have y3 := (SE.at 0 rfl).free 3
  have z4 := (SE.at 1 rfl).cell 4 rfl
  have x4 := (SE.at 0 rfl).cell 4 rfl
  have y4 := (SE.at 0 rfl).free 4
  have hq := Lib.hid (((((SE.set 0 rfl 0 (.int .i64 x)).set 0 rfl 1 (.int .i64 y)).set 0 rfl 2 (.int .i64 X)).set 0 rfl 3 (.int .i64 Y)).set 0 rfl 4 (.int .i64 n))
  clear SE
  go_wp2_with fail
  have q0 := (hq.out.at 0 rfl).cell 0 rfl
  have q1 := (hq.out.at 0 rfl).cell 1 rfl
  have q2 := (hq.out.at 0 rfl).cell 2 rfl
  have q3 := (hq.out.at 0 rfl).cell 3 rfl
  have q4 := (hq.out.at 0 rfl).cell 4 rfl
  exact bodyPost_ret (v := .agg #[.int .i64 x, .int .i64 y, .int .i64 X, .int .i64 Y, .int .i64 n]) (by simp [results, Try.results24, go_sem, q0, q1, q2, q3, q4]) rfl ⟨x, y, X, Y, n, rfl, ⟨⟨by omega, by omega⟩, ⟨by omega, by omega⟩, by omega⟩, hq.out.cur.mono (by omega), hq.out.grow⟩
end Go.Proofs.Ythokcddabgojgaa
