/-
  Draws of moves: two that go together.
-/
import Derived.Test.YthokcddabgojgaaSpD
import Derived.Test.YthokcddabgojgaaTail
namespace Go.Proofs.Ythokcddabgojgaa
open Go.RowKit

abbrev MvC (a b c d n : Int) : Prop := ((-100000 ≤ a ∧ a ≤ 100000) ∧ -100000 ≤ b ∧ b ≤ 100000) ∧ ((-100000 ≤ c ∧ c ≤ 100000) ∧ -100000 ≤ d ∧ d ≤ 100000) ∧ 0 ≤ n ∧ n ≤ 65
theorem MvB.c {a b c d n : Int} (h : MvB a b c d n) : MvC a b c d n := by
  obtain ⟨⟨⟨h1, h2⟩, h3, h4⟩, ⟨⟨h5, h6⟩, h7, h8⟩, h9, h10⟩ := h
  exact ⟨⟨⟨by omega, by omega⟩, by omega, by omega⟩, ⟨⟨by omega, by omega⟩, by omega, by omega⟩, h9, h10⟩
set_option maxHeartbeats 16000000 in
set_option maxRecDepth 20000 in
theorem tg_tail {w0 w W : World} {g m m' R1 R2 P Q : Nat} {a b c d n a' b' c' d' n' : Int} {s1 s6 s7 s8 s9 s10 s11 s12 s13 s14 s15 s16 s17 s18 s19 s20 s21 s22 s23 s24 s25 s26 s27 s28 s29 s30 s31 s32 s33 s34 s35 s36 s37 s38 s39 s40 s41 s42 s43 s44 s45 s46 s47 s48 s49 s50 s51 s52 s53 s54 : Value} (S : Bxs w0 w g m' W [(R1, #[.int .i64 0, .int .i64 0, .int .i64 0, .int .i64 0, .int .i64 0], 39), (R2, #[.int .i64 0, .int .i64 0, .int .i64 0, .int .i64 0, .int .i64 0], 39), (P, #[.int .i64 a, .int .i64 b, .int .i64 c, .int .i64 d, .int .i64 n], 39), (Q, #[.int .i64 a', .int .i64 b', .int .i64 c', .int .i64 d', .int .i64 n'], 39)]) (hm : m' ≤ m + 298) (hm2 : m ≤ 90000000) (hb1 : MvB a b c d n) (hb2 : MvC a' b' c' d' n') :
    Code.wp Try.prog (Code.tailOf 3 (Try.f71.body.getD .skip)) (bodyPost Try.prog Try.f71 (fun e w' => ∃ a b c d n a' b' c' d' n' : Int, e = .returned (.tuple #[.agg #[.int .i64 a, .int .i64 b, .int .i64 c, .int .i64 d, .int .i64 n], .agg #[.int .i64 a', .int .i64 b', .int .i64 c', .int .i64 d', .int .i64 n']]) ∧ MvB a b c d n ∧ MvC a' b' c' d' n' ∧ CurP w0 w' g (m + 300) ∧ w.grownBy w' (some g))) ⟨#[.pointer (some ⟨g, 0, none⟩), s1, .pointer (some ⟨R1, 0, none⟩), .pointer (some ⟨R2, 0, none⟩), .pointer (some ⟨P, 0, none⟩), .pointer (some ⟨Q, 0, none⟩), s6, s7, s8, s9, s10, s11, s12, s13, s14, s15, s16, s17, s18, s19, s20, s21, s22, s23, s24, s25, s26, s27, s28, s29, s30, s31, s32, s33, s34, s35, s36, s37, s38, s39, s40, s41, s42, s43, s44, s45, s46, s47, s48, s49, s50, s51, s52, s53, s54], []⟩ W := by
  conv => arg 2; whnf
  conv => arg 4; zeta
  go_wp2_with fail
  refine (s_one (w0 := w0) _ _ _ 12 (by omega) (by omega) S.cur).mono ?_
  rintro _ w1 ⟨o, rfl, hC1, hr1⟩
  have S1 := S.call hC1 hr1
  cases o with
  | true =>
    go_upto_region 12 with fail
    have p0 := (S1.at 2 rfl).cell 0 rfl
    have q0 := (S1.at 3 rfl).cell 0 rfl
    have r0 := (S1.at 0 rfl).cell 0 rfl
    have t0 := (S1.at 1 rfl).cell 0 rfl
    have p1 := (S1.at 2 rfl).cell 1 rfl
    have q1 := (S1.at 3 rfl).cell 1 rfl
    have r1 := (S1.at 0 rfl).cell 1 rfl
    have t1 := (S1.at 1 rfl).cell 1 rfl
    have p2 := (S1.at 2 rfl).cell 2 rfl
    have q2 := (S1.at 3 rfl).cell 2 rfl
    have r2 := (S1.at 0 rfl).cell 2 rfl
    have t2 := (S1.at 1 rfl).cell 2 rfl
    have p3 := (S1.at 2 rfl).cell 3 rfl
    have q3 := (S1.at 3 rfl).cell 3 rfl
    have r3 := (S1.at 0 rfl).cell 3 rfl
    have t3 := (S1.at 1 rfl).cell 3 rfl
    have p4 := (S1.at 2 rfl).cell 4 rfl
    have q4 := (S1.at 3 rfl).cell 4 rfl
    have r4 := (S1.at 0 rfl).cell 4 rfl
    have t4 := (S1.at 1 rfl).cell 4 rfl
    have fr0 := (S1.at 0 rfl).free 0
    have fr1 := (S1.at 0 rfl).free 1
    have fr2 := (S1.at 0 rfl).free 2
    have fr3 := (S1.at 0 rfl).free 3
    have fr4 := (S1.at 0 rfl).free 4
    have ft0 := (S1.at 1 rfl).free 0
    have ft1 := (S1.at 1 rfl).free 1
    have ft2 := (S1.at 1 rfl).free 2
    have ft3 := (S1.at 1 rfl).free 3
    have ft4 := (S1.at 1 rfl).free 4
    have fq0 := (S1.at 3 rfl).free 0
    have fq1 := (S1.at 3 rfl).free 1
    have fq2 := (S1.at 3 rfl).free 2
    have fq3 := (S1.at 3 rfl).free 3
    have fq4 := (S1.at 3 rfl).free 4
    have n01 := S1.ne 0 1 rfl rfl (by decide)
    have n02 := S1.ne 0 2 rfl rfl (by decide)
    have n03 := S1.ne 0 3 rfl rfl (by decide)
    have n10 := S1.ne 1 0 rfl rfl (by decide)
    have n12 := S1.ne 1 2 rfl rfl (by decide)
    have n13 := S1.ne 1 3 rfl rfl (by decide)
    have n20 := S1.ne 2 0 rfl rfl (by decide)
    have n21 := S1.ne 2 1 rfl rfl (by decide)
    have n23 := S1.ne 2 3 rfl rfl (by decide)
    have n30 := S1.ne 3 0 rfl rfl (by decide)
    have n31 := S1.ne 3 1 rfl rfl (by decide)
    have n32 := S1.ne 3 2 rfl rfl (by decide)
    have hqA := Lib.hid (((((((((((S1.set 0 rfl 0 (.int .i64 a)).set 0 rfl 1 (.int .i64 b)).set 0 rfl 2 (.int .i64 c)).set 0 rfl 3 (.int .i64 d)).set 0 rfl 4 (.int .i64 n)).set 1 rfl 0 (.int .i64 a')).set 1 rfl 1 (.int .i64 b')).set 1 rfl 2 (.int .i64 c')).set 1 rfl 3 (.int .i64 d')).set 1 rfl 4 (.int .i64 n')).drew)
    have kS := And.intro p0 (And.intro p1 (And.intro p2 (And.intro p3 (And.intro p4 (And.intro q0 (And.intro q1 (And.intro q2 (And.intro q3 (q4)))))))))
    go_region_held3 (fun u => u.cell? ⟨P, 0, none⟩ = some (.int .i64 a) ∧ u.cell? ⟨P, 1, none⟩ = some (.int .i64 b) ∧ u.cell? ⟨P, 2, none⟩ = some (.int .i64 c) ∧ u.cell? ⟨P, 3, none⟩ = some (.int .i64 d) ∧ u.cell? ⟨P, 4, none⟩ = some (.int .i64 n) ∧ u.cell? ⟨Q, 0, none⟩ = some (.int .i64 a') ∧ u.cell? ⟨Q, 1, none⟩ = some (.int .i64 b') ∧ u.cell? ⟨Q, 2, none⟩ = some (.int .i64 c') ∧ u.cell? ⟨Q, 3, none⟩ = some (.int .i64 d') ∧ u.cell? ⟨Q, 4, none⟩ = some (.int .i64 n')) (first | with_reducible assumption | go_keep) (fail)
    clear p0 q0 r0 t0 fr0 ft0 fq0 p1 q1 r1 t1 fr1 ft1 fq1 p2 q2 r2 t2 fr2 ft2 fq2 p3 q3 r3 t3 fr3 ft3 fq3 p4 q4 r4 t4 fr4 ft4 fq4 S1 kS
    go_wp2_with fail
    have u0 := (hqA.out.at 0 rfl).cell 0 rfl
    have v0 := (hqA.out.at 1 rfl).cell 0 rfl
    have u1 := (hqA.out.at 0 rfl).cell 1 rfl
    have v1 := (hqA.out.at 1 rfl).cell 1 rfl
    have u2 := (hqA.out.at 0 rfl).cell 2 rfl
    have v2 := (hqA.out.at 1 rfl).cell 2 rfl
    have u3 := (hqA.out.at 0 rfl).cell 3 rfl
    have v3 := (hqA.out.at 1 rfl).cell 3 rfl
    have u4 := (hqA.out.at 0 rfl).cell 4 rfl
    have v4 := (hqA.out.at 1 rfl).cell 4 rfl
    exact bodyPost_ret (v := .tuple #[.agg #[.int .i64 a, .int .i64 b, .int .i64 c, .int .i64 d, .int .i64 n], .agg #[.int .i64 a', .int .i64 b', .int .i64 c', .int .i64 d', .int .i64 n']]) (by simp [results, Try.results71, go_sem, u0, u1, u2, u3, u4, v0, v1, v2, v3, v4]) rfl ⟨a, b, c, d, n, a', b', c', d', n', rfl, hb1, hb2, hqA.out.cur.mono (by omega), hqA.out.grow⟩
  | false =>
    have hp4 := (S1.at 2 rfl).cell 4 rfl
    have hq4 := (S1.at 3 rfl).cell 4 rfl
    have hf4 := (S1.at 3 rfl).free 4
    have S2 := S1.set 3 rfl 4 (.int .i64 n)
    dsimp only [List.set_cons_zero, List.set_cons_succ] at S2
    simp only [List.setIfInBounds_toArray, List.set_cons_zero, List.set_cons_succ] at S2
    go_upto_region 12 with fail
    clear hp4 hq4 hf4 S1
    generalize (w1.setCell ⟨Q, 4, none⟩ (.int .i64 n)) = w2 at *
    have p0 := (S2.at 2 rfl).cell 0 rfl
    have q0 := (S2.at 3 rfl).cell 0 rfl
    have r0 := (S2.at 0 rfl).cell 0 rfl
    have t0 := (S2.at 1 rfl).cell 0 rfl
    have p1 := (S2.at 2 rfl).cell 1 rfl
    have q1 := (S2.at 3 rfl).cell 1 rfl
    have r1 := (S2.at 0 rfl).cell 1 rfl
    have t1 := (S2.at 1 rfl).cell 1 rfl
    have p2 := (S2.at 2 rfl).cell 2 rfl
    have q2 := (S2.at 3 rfl).cell 2 rfl
    have r2 := (S2.at 0 rfl).cell 2 rfl
    have t2 := (S2.at 1 rfl).cell 2 rfl
    have p3 := (S2.at 2 rfl).cell 3 rfl
    have q3 := (S2.at 3 rfl).cell 3 rfl
    have r3 := (S2.at 0 rfl).cell 3 rfl
    have t3 := (S2.at 1 rfl).cell 3 rfl
    have p4 := (S2.at 2 rfl).cell 4 rfl
    have q4 := (S2.at 3 rfl).cell 4 rfl
    have r4 := (S2.at 0 rfl).cell 4 rfl
    have t4 := (S2.at 1 rfl).cell 4 rfl
    have fr0 := (S2.at 0 rfl).free 0
    have fr1 := (S2.at 0 rfl).free 1
    have fr2 := (S2.at 0 rfl).free 2
    have fr3 := (S2.at 0 rfl).free 3
    have fr4 := (S2.at 0 rfl).free 4
    have ft0 := (S2.at 1 rfl).free 0
    have ft1 := (S2.at 1 rfl).free 1
    have ft2 := (S2.at 1 rfl).free 2
    have ft3 := (S2.at 1 rfl).free 3
    have ft4 := (S2.at 1 rfl).free 4
    have fq0 := (S2.at 3 rfl).free 0
    have fq1 := (S2.at 3 rfl).free 1
    have fq2 := (S2.at 3 rfl).free 2
    have fq3 := (S2.at 3 rfl).free 3
    have fq4 := (S2.at 3 rfl).free 4
    have n01 := S2.ne 0 1 rfl rfl (by decide)
    have n02 := S2.ne 0 2 rfl rfl (by decide)
    have n03 := S2.ne 0 3 rfl rfl (by decide)
    have n10 := S2.ne 1 0 rfl rfl (by decide)
    have n12 := S2.ne 1 2 rfl rfl (by decide)
    have n13 := S2.ne 1 3 rfl rfl (by decide)
    have n20 := S2.ne 2 0 rfl rfl (by decide)
    have n21 := S2.ne 2 1 rfl rfl (by decide)
    have n23 := S2.ne 2 3 rfl rfl (by decide)
    have n30 := S2.ne 3 0 rfl rfl (by decide)
    have n31 := S2.ne 3 1 rfl rfl (by decide)
    have n32 := S2.ne 3 2 rfl rfl (by decide)
    have hqA := Lib.hid (((((((((((S2.set 0 rfl 0 (.int .i64 a)).set 0 rfl 1 (.int .i64 b)).set 0 rfl 2 (.int .i64 c)).set 0 rfl 3 (.int .i64 d)).set 0 rfl 4 (.int .i64 n)).set 1 rfl 0 (.int .i64 a')).set 1 rfl 1 (.int .i64 b')).set 1 rfl 2 (.int .i64 c')).set 1 rfl 3 (.int .i64 d')).set 1 rfl 4 (.int .i64 n)).drew)
    have kS := And.intro p0 (And.intro p1 (And.intro p2 (And.intro p3 (And.intro p4 (And.intro q0 (And.intro q1 (And.intro q2 (And.intro q3 (q4)))))))))
    go_region_held3 (fun u => u.cell? ⟨P, 0, none⟩ = some (.int .i64 a) ∧ u.cell? ⟨P, 1, none⟩ = some (.int .i64 b) ∧ u.cell? ⟨P, 2, none⟩ = some (.int .i64 c) ∧ u.cell? ⟨P, 3, none⟩ = some (.int .i64 d) ∧ u.cell? ⟨P, 4, none⟩ = some (.int .i64 n) ∧ u.cell? ⟨Q, 0, none⟩ = some (.int .i64 a') ∧ u.cell? ⟨Q, 1, none⟩ = some (.int .i64 b') ∧ u.cell? ⟨Q, 2, none⟩ = some (.int .i64 c') ∧ u.cell? ⟨Q, 3, none⟩ = some (.int .i64 d') ∧ u.cell? ⟨Q, 4, none⟩ = some (.int .i64 n)) (first | with_reducible assumption | go_keep) (fail)
    clear p0 q0 r0 t0 fr0 ft0 fq0 p1 q1 r1 t1 fr1 ft1 fq1 p2 q2 r2 t2 fr2 ft2 fq2 p3 q3 r3 t3 fr3 ft3 fq3 p4 q4 r4 t4 fr4 ft4 fq4 S2 kS
    go_wp2_with fail
    have u0 := (hqA.out.at 0 rfl).cell 0 rfl
    have v0 := (hqA.out.at 1 rfl).cell 0 rfl
    have u1 := (hqA.out.at 0 rfl).cell 1 rfl
    have v1 := (hqA.out.at 1 rfl).cell 1 rfl
    have u2 := (hqA.out.at 0 rfl).cell 2 rfl
    have v2 := (hqA.out.at 1 rfl).cell 2 rfl
    have u3 := (hqA.out.at 0 rfl).cell 3 rfl
    have v3 := (hqA.out.at 1 rfl).cell 3 rfl
    have u4 := (hqA.out.at 0 rfl).cell 4 rfl
    have v4 := (hqA.out.at 1 rfl).cell 4 rfl
    exact bodyPost_ret (v := .tuple #[.agg #[.int .i64 a, .int .i64 b, .int .i64 c, .int .i64 d, .int .i64 n], .agg #[.int .i64 a', .int .i64 b', .int .i64 c', .int .i64 d', .int .i64 n]]) (by simp [results, Try.results71, go_sem, u0, u1, u2, u3, u4, v0, v1, v2, v3, v4]) rfl ⟨a, b, c, d, n, a', b', c', d', n, rfl, hb1, ⟨hb2.1, hb2.2.1, hb1.2.2⟩, hqA.out.cur.mono (by omega), hqA.out.grow⟩

set_option maxHeartbeats 16000000 in
set_option maxRecDepth 20000 in
theorem s_together {w0 w : World} {g m : Nat} (hC : CurP w0 w g m) (hm : m ≤ 90000000) :
    Calls Try.prog 71 #[.pointer (some ⟨g, 0, none⟩)] w fun e w' => ∃ a b c d n a' b' c' d' n' : Int, e = .returned (.tuple #[.agg #[.int .i64 a, .int .i64 b, .int .i64 c, .int .i64 d, .int .i64 n], .agg #[.int .i64 a', .int .i64 b', .int .i64 c', .int .i64 d', .int .i64 n']]) ∧ MvB a b c d n ∧ MvC a' b' c' d' n' ∧ CurP w0 w' g (m + 300) ∧ w.grownBy w' (some g) := by
  have S1 := ((Bxs.start hC).new #[.int .i64 0, .int .i64 0, .int .i64 0, .int .i64 0, .int .i64 0] 39).new #[.int .i64 0, .int .i64 0, .int .i64 0, .int .i64 0, .int .i64 0] 39
  simp only [List.nil_append, List.cons_append, World.size_alloc] at S1
  go_enter Try.func71, Try.ntmps71
  go_wp2_with fail
  refine (s_move (w0 := w0) S1.cur (by omega)).mono ?_
  rintro _ w1 ⟨a, b, c, d, n, rfl, hb1, hC1, hr1⟩
  have S2 := S1.call hC1 hr1
  clear S1 hC1 hr1
  go_wp2_with fail
  refine (s_move (w0 := w0) S2.cur (by omega)).mono ?_
  rintro _ w2 ⟨a', b', c', d', n', rfl, hb2, hC2, hr2⟩
  have S3 := ((S2.call hC2 hr2).new #[.int .i64 a, .int .i64 b, .int .i64 c, .int .i64 d, .int .i64 n] 39).new #[.int .i64 a', .int .i64 b', .int .i64 c', .int .i64 d', .int .i64 n'] 39
  simp only [List.nil_append, List.cons_append, World.size_alloc] at S3
  clear S2 hC2 hr2
  go_upto_region 2 with fail
  generalize (w2.alloc (.cells #[.int .i64 a, .int .i64 b, .int .i64 c, .int .i64 d, .int .i64 n] 39)).alloc (.cells #[.int .i64 a', .int .i64 b', .int .i64 c', .int .i64 d', .int .i64 n'] 39) = w3 at *
  generalize w.heap.size = R1 at *
  generalize w2.heap.size = P at *
  generalize R1 + 1 = R2 at *
  generalize P + 1 = Q at *
  go_wp2_with fail
  refine (c_pick (w0 := w0) S3.cur (by omega) (by omega)).mono ?_
  rintro _ w4 ⟨v, rfl, -, hC4, hr4⟩
  have S4 := S3.call hC4 hr4
  clear S3 hC4 hr4
  obtain ⟨⟨⟨a1, a2⟩, a3, a4⟩, ⟨⟨a5, a6⟩, a7, a8⟩, a9, a10⟩ := id hb1
  by_cases v0 : v = 0
  · subst v0
    have p0 := (S4.at 2 rfl).cell 0 rfl
    have q0 := (S4.at 3 rfl).cell 0 rfl
    have fq0 := (S4.at 3 rfl).free 0
    have p1 := (S4.at 2 rfl).cell 1 rfl
    have q1 := (S4.at 3 rfl).cell 1 rfl
    have fq1 := (S4.at 3 rfl).free 1
    have p2 := (S4.at 2 rfl).cell 2 rfl
    have q2 := (S4.at 3 rfl).cell 2 rfl
    have fq2 := (S4.at 3 rfl).free 2
    have p3 := (S4.at 2 rfl).cell 3 rfl
    have q3 := (S4.at 3 rfl).cell 3 rfl
    have fq3 := (S4.at 3 rfl).free 3
    have p4 := (S4.at 2 rfl).cell 4 rfl
    have q4 := (S4.at 3 rfl).cell 4 rfl
    have fq4 := (S4.at 3 rfl).free 4
    have n23 := S4.ne 2 3 rfl rfl (by decide)
    have n32 := S4.ne 3 2 rfl rfl (by decide)
    have S5 := (((((S4.set 3 rfl 0 (.int .i64 c)).set 3 rfl 1 (.int .i64 d)).set 3 rfl 2 (.int .i64 a)).set 3 rfl 3 (.int .i64 b)).set 3 rfl 4 (.int .i64 0))
    simp only [List.setIfInBounds_toArray, List.set_cons_zero, List.set_cons_succ] at S5
    go_upto_region 5 with fail
    clear S4 p0 q0 fq0 p1 q1 fq1 p2 q2 fq2 p3 q3 fq3 p4 q4 fq4
    generalize (((((w4.setCell ⟨Q, 0, none⟩ (.int .i64 c)).setCell ⟨Q, 1, none⟩ (.int .i64 d)).setCell ⟨Q, 2, none⟩ (.int .i64 a)).setCell ⟨Q, 3, none⟩ (.int .i64 b)).setCell ⟨Q, 4, none⟩ (.int .i64 0)) = w5 at *
    go_upto_region 5 with fail
    have K5 := Lib.hid S5
    have z5 := (S5.at 3 rfl).cell 0 rfl
    clear S5
    go_region_law (first | (go_simp; have K := K5.out; go_at_call 41; refine (c_pick (w0 := w0) K.drew.cur (by omega) (by omega)).mono ?_; rintro _ wa5 ⟨p, rfl, ⟨hp15, hp25, hp35⟩, hCa, hra⟩; have hp45 := hp35 (by omega); have KA5 := Lib.hid (K.drew.call hCa hra); clear K hCa hra hp35; have za5 := (KA5.out.at 3 rfl).cell 0 rfl; have fa5 := (KA5.out.at 3 rfl).free 0; have wd5 : IntKind.i64.wrap (p - 8) = p - 8 := IntWalk.i64_in _ (by omega); have ws5 : IntKind.i64.wrap (c + (p - 8)) = c + (p - 8) := IntWalk.i64_in _ (by omega)) | fail)
    all_goals
      have S6 := KA5.out.set 3 rfl 0 (.int .i64 (c + (p - 8)))
      simp only [List.setIfInBounds_toArray, List.set_cons_zero, List.set_cons_succ] at S6
      clear z5 za5 fa5 ws5 K5 KA5
      repeat (first | (go_at_K; go_step; exact tg_tail S6 (by omega) hm hb1 ⟨⟨⟨by omega, by omega⟩, by omega, by omega⟩, ⟨⟨by omega, by omega⟩, by omega, by omega⟩, by omega, by omega⟩) | go_step)
  have b0 : (v == 0) = false := by simp [v0]
  by_cases v1 : v = 1
  · subst v1
    have p0 := (S4.at 2 rfl).cell 0 rfl
    have q0 := (S4.at 3 rfl).cell 0 rfl
    have fq0 := (S4.at 3 rfl).free 0
    have p1 := (S4.at 2 rfl).cell 1 rfl
    have q1 := (S4.at 3 rfl).cell 1 rfl
    have fq1 := (S4.at 3 rfl).free 1
    have p2 := (S4.at 2 rfl).cell 2 rfl
    have q2 := (S4.at 3 rfl).cell 2 rfl
    have fq2 := (S4.at 3 rfl).free 2
    have p3 := (S4.at 2 rfl).cell 3 rfl
    have q3 := (S4.at 3 rfl).cell 3 rfl
    have fq3 := (S4.at 3 rfl).free 3
    have p4 := (S4.at 2 rfl).cell 4 rfl
    have q4 := (S4.at 3 rfl).cell 4 rfl
    have fq4 := (S4.at 3 rfl).free 4
    have n23 := S4.ne 2 3 rfl rfl (by decide)
    have n32 := S4.ne 3 2 rfl rfl (by decide)
    have S5 := (((((S4.set 3 rfl 0 (.int .i64 a)).set 3 rfl 1 (.int .i64 b)).set 3 rfl 2 (.int .i64 c)).set 3 rfl 3 (.int .i64 d)).set 3 rfl 4 (.int .i64 n))
    simp only [List.setIfInBounds_toArray, List.set_cons_zero, List.set_cons_succ] at S5
    go_upto_region 8 with fail
    clear S4 p0 q0 fq0 p1 q1 fq1 p2 q2 fq2 p3 q3 fq3 p4 q4 fq4
    generalize (((((w4.setCell ⟨Q, 0, none⟩ (.int .i64 a)).setCell ⟨Q, 1, none⟩ (.int .i64 b)).setCell ⟨Q, 2, none⟩ (.int .i64 c)).setCell ⟨Q, 3, none⟩ (.int .i64 d)).setCell ⟨Q, 4, none⟩ (.int .i64 n)) = w5 at *
    go_upto_region 8 with fail
    have K8 := Lib.hid S5
    have z8 := (S5.at 3 rfl).cell 1 rfl
    clear S5
    go_region_law (first | (go_simp; have K := K8.out; go_at_call 41; refine (c_pick (w0 := w0) K.drew.cur (by omega) (by omega)).mono ?_; rintro _ wa8 ⟨p, rfl, ⟨hp18, hp28, hp38⟩, hCa, hra⟩; have hp48 := hp38 (by omega); have KA8 := Lib.hid (K.drew.call hCa hra); clear K hCa hra hp38; have za8 := (KA8.out.at 3 rfl).cell 1 rfl; have fa8 := (KA8.out.at 3 rfl).free 1; have ws8 : IntKind.i64.wrap (b + p) = b + p := IntWalk.i64_in _ (by omega)) | fail)
    all_goals
      have S6 := KA8.out.set 3 rfl 1 (.int .i64 (b + p))
      simp only [List.setIfInBounds_toArray, List.set_cons_zero, List.set_cons_succ] at S6
      clear z8 za8 fa8 ws8 K8 KA8
      generalize (wa8.setCell ⟨Q, 1, none⟩ (.int .i64 (b + p))) = w6 at *
      go_upto_region 9 with fail
      have K9 := Lib.hid S6
      have z9 := (S6.at 3 rfl).cell 3 rfl
      clear S6
      go_region_law (first | (go_simp; have K := K9.out; go_at_call 41; refine (c_pick (w0 := w0) K.drew.cur (by omega) (by omega)).mono ?_; rintro _ wa9 ⟨p', rfl, ⟨hp19, hp29, hp39⟩, hCa, hra⟩; have hp49 := hp39 (by omega); have KA9 := Lib.hid (K.drew.call hCa hra); clear K hCa hra hp39; have za9 := (KA9.out.at 3 rfl).cell 3 rfl; have fa9 := (KA9.out.at 3 rfl).free 3; have ws9 : IntKind.i64.wrap (d + p') = d + p' := IntWalk.i64_in _ (by omega)) | fail)
      all_goals
        have S7 := KA9.out.set 3 rfl 3 (.int .i64 (d + p'))
        simp only [List.setIfInBounds_toArray, List.set_cons_zero, List.set_cons_succ] at S7
        clear z9 za9 fa9 ws9 K9 KA9
        repeat (first | (go_at_K; go_step; exact tg_tail S7 (by omega) hm hb1 ⟨⟨⟨by omega, by omega⟩, by omega, by omega⟩, ⟨⟨by omega, by omega⟩, by omega, by omega⟩, by omega, by omega⟩) | go_step)
  have b1 : (v == 1) = false := by simp [v1]
  dsimp only
  repeat (first | (go_at_K; go_step; exact tg_tail S4 (by omega) hm hb1 hb2.c) | go_step)
end Go.Proofs.Ythokcddabgojgaa
