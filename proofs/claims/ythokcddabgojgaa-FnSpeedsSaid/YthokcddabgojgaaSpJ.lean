/-
  Draws of the law of speeds: a move with music.
-/
import Derived.Test.YthokcddabgojgaaSpI
namespace Go.Proofs.Ythokcddabgojgaa
open Go.RowKit

set_option maxHeartbeats 16000000 in
set_option maxRecDepth 20000 in
theorem d_MoveLasts (A : Option Addr) (cc : Nat) (bs : List UInt8) (w : World) (hl : bs.length ≤ 9223372036854775807) (hr : Rd w A bs) :
    Calls Try.prog 13 #[.slice A bs.length cc] w fun e w' => ∃ (a b c d n : Int) (mu : List (Int × Int)) (B : Option Addr) (cm : Nat) (f : Int), e = .returned (.tuple #[.agg #[.int .i64 a, .int .i64 b, .int .i64 c, .int .i64 d, .int .i64 n], .slice B mu.length cm, .int .i64 f]) ∧ mu.length ≤ 41 ∧ w'.ownsRow w.heap.size 52 2 (.slice B mu.length cm) mu.length (flat mu) ∧ Gw w w' := by
  have S0 := Bxs.cursor (cc := cc) hr hl ((Gw.refl w).alloc (.cells #[.int .i64 0, .int .i64 0, .int .i64 0, .int .i64 0, .int .i64 0] 39)) (bx := [(w.heap.size, #[.int .i64 0, .int .i64 0, .int .i64 0, .int .i64 0, .int .i64 0], 39)]) (fun b h => by simp only [List.mem_singleton] at h; subst h; exact ⟨BoxR.new w _ _, Nat.le_refl _⟩) (by simp)
  simp only [World.size_alloc] at S0
  go_enter Try.func13, Try.ntmps13
  go_wp2_with fail
  refine (s_move (w0 := w) S0.cur (by omega)).mono ?_
  rintro _ w1 ⟨a, b, c, d, n, rfl, hbm, hC1, hr1⟩
  have S1 := S0.call hC1 hr1
  have hs1 := hr1.size; (try simp at hs1)
  clear S0 hC1 hr1
  go_wp2_with fail
  refine (s_anyMusic (w0 := w) S1.cur (by omega)).mono ?_
  rintro _ w2 ⟨mu, B, cm, k, rfl, rfl, hk, hownM, hC2, hr2⟩
  have S2 := (S1.call hC2 hr2).new #[.int .i64 a, .int .i64 b, .int .i64 c, .int .i64 d, .int .i64 n] 39
  simp only [List.cons_append, List.nil_append] at S2
  have hown2 := own_lower (hownM.alloc (.cells #[.int .i64 a, .int .i64 b, .int .i64 c, .int .i64 d, .int .i64 n] 39)) (show w.heap.size + 2 ≤ w1.heap.size by omega)
  have hn := hbm.2.2
  clear S1 hC2 hr2 hownM hbm
  go_upto_region 4 with fail
  generalize (w2.alloc (.cells #[.int .i64 a, .int .i64 b, .int .i64 c, .int .i64 d, .int .i64 n] 39)) = w3 at *
  generalize w2.heap.size = M at *
  generalize hR : w.heap.size = R at *
  go_wp2_with fail
  refine (s_muGood _ _ _ _ (by omega) (own_rd hown2)).mono ?_
  rintro _ w4 (⟨hp, rfl, hb4⟩ | ⟨hp, rfl, hb4⟩)
  case inr =>
    have S4 := S2.gw hb4
    have hown4 := own_gw hown2 hb4
    clear hp S2 hown2 hb4
    have SE := S4
    have n01 := SE.ne 0 1 rfl rfl (by decide)
    have n10 := SE.ne 1 0 rfl rfl (by decide)
    have z0 := (SE.at 1 rfl).cell 0 rfl
    have x0 := (SE.at 0 rfl).cell 0 rfl
    have y0 := (SE.at 0 rfl).free 0
    have z1 := (SE.at 1 rfl).cell 1 rfl
    have x1 := (SE.at 0 rfl).cell 1 rfl
    have y1 := (SE.at 0 rfl).free 1
    have z2 := (SE.at 1 rfl).cell 2 rfl
    have x2 := (SE.at 0 rfl).cell 2 rfl
    have y2 := (SE.at 0 rfl).free 2
    have z3 := (SE.at 1 rfl).cell 3 rfl
    have x3 := (SE.at 0 rfl).cell 3 rfl
    have y3 := (SE.at 0 rfl).free 3
    have z4 := (SE.at 1 rfl).cell 4 rfl
    have x4 := (SE.at 0 rfl).cell 4 rfl
    have y4 := (SE.at 0 rfl).free 4
    have hap : (Value.slice B mu.length cm).ownBlock ≠ some R := fun e => by have := (hown4.lt R e).1; omega
    have hq := Lib.hid (((((SE.set 0 rfl 0 (.int .i64 a)).set 0 rfl 1 (.int .i64 b)).set 0 rfl 2 (.int .i64 c)).set 0 rfl 3 (.int .i64 d)).set 0 rfl 4 (.int .i64 n))
    have hO := Lib.hid (own_setB (own_setB (own_setB (own_setB (own_setB hown4 hap 0 (.int .i64 a)) hap 1 (.int .i64 b)) hap 2 (.int .i64 c)) hap 3 (.int .i64 d)) hap 4 (.int .i64 n))
    clear SE
    go_wp2_with fail
    have q0 := (hq.out.at 0 rfl).cell 0 rfl
    have q1 := (hq.out.at 0 rfl).cell 1 rfl
    have q2 := (hq.out.at 0 rfl).cell 2 rfl
    have q3 := (hq.out.at 0 rfl).cell 3 rfl
    have q4 := (hq.out.at 0 rfl).cell 4 rfl
    exact bodyPost_ret (v := .tuple #[.agg #[.int .i64 a, .int .i64 b, .int .i64 c, .int .i64 d, .int .i64 n], .slice B mu.length cm, .int .i64 0]) (by simp [results, Try.results13, go_sem, q0, q1, q2, q3, q4]) rfl ⟨a, b, c, d, n, mu, B, cm, 0, rfl, hk, own_lower hO.out (by omega), hq.out.cur.gw⟩
  have S4 := S2.gw hb4
  have hown4 := own_gw hown2 hb4
  have HP := Lib.hid hp
  clear hp S2 hown2 hb4
  have e4 := (S4.at 1 rfl).cell 4 rfl
  have hsb := sumC_bd mu HP.out.1
  have h40 := HP.out.2.2
  have wS : IntKind.i64.wrap (sumC mu - n) = sumC mu - n := IntWalk.i64_in _ (by omega)
  have wT : IntKind.i64.wrap (sumC mu - n + 2) = sumC mu - n + 2 := IntWalk.i64_in _ (by omega)
  have K0 := Lib.hid S4.drew
  have O0 := Lib.hid (own_gw hown4 (Gw.refl w4).drew)
  clear S4 hown4
  go_upto_region 5 with fail
  go_region_held3 (fun u => u.cell? ⟨M, 4, none⟩ = some (.int .i64 n)) (first | with_reducible assumption | go_keep)
    (first
      | (have K := K0.out; go_at_call 43; refine (s_muCounts _ _ mu _ (by omega) HP.out.1 (own_rd O0.out)).mono ?_; rintro _ wa ⟨rfl, hba⟩; have Ka := Lib.hid (K.gw hba); have Oa := Lib.hid (own_gw O0.out hba); clear K K0 O0; have kS := (Ka.out.at 1 rfl).cell 4 rfl)
      | (have K := Ka.out; go_at_call 42; refine (s_l1Most _ _ _).mono ?_; rintro _ wb ⟨rfl, rfl⟩)
      | (have K := Ka.out; go_at_call 41; refine (c_pick (w0 := w) K.cur (by omega) (by omega)).mono ?_; rintro _ wc ⟨p, rfl, ⟨hp1, hp2, -⟩, hCc, hrc⟩; have Kc := Lib.hid (K.call hCc hrc); have Oc := Lib.hid (own_grow Oa.out hrc (by omega)); clear K Ka Oa kS hCc hrc; have kS := (Kc.out.at 1 rfl).cell 4 rfl)
      | (have K := Kc.out; go_at_call 41; refine (c_pick (w0 := w) K.cur (by omega) (by omega)).mono ?_; rintro _ wd ⟨p', rfl, ⟨hp1', hp2', -⟩, hCd, hrd⟩; have Kd := Lib.hid (K.call hCd hrd); have Od := Lib.hid (own_grow Oc.out hrd (by omega)); clear K Kc Oc kS hCd hrd; have ht : p'.tdiv 23 = p' / 23 := Int.tdiv_eq_ediv_of_nonneg hp1'; have hw1 : IntKind.i64.wrap (p'.tdiv 23) = p' / 23 := (by rw [ht]; exact IntWalk.i64_in _ (by omega)); have hw2 : IntKind.i64.wrap (p' / 23) = p' / 23 := IntWalk.i64_in _ (by omega); have hw3 : IntKind.i64.wrap (p - p' / 23) = p - p' / 23 := IntWalk.i64_in _ (by omega); have kS := (Kd.out.at 1 rfl).cell 4 rfl)
      | fail)
  all_goals
    clear kS
    have SE := Kd.out
    have n01 := SE.ne 0 1 rfl rfl (by decide)
    have n10 := SE.ne 1 0 rfl rfl (by decide)
    have z0 := (SE.at 1 rfl).cell 0 rfl
    have x0 := (SE.at 0 rfl).cell 0 rfl
    have y0 := (SE.at 0 rfl).free 0
    have z1 := (SE.at 1 rfl).cell 1 rfl
    have x1 := (SE.at 0 rfl).cell 1 rfl
    have y1 := (SE.at 0 rfl).free 1
    have z2 := (SE.at 1 rfl).cell 2 rfl
    have x2 := (SE.at 0 rfl).cell 2 rfl
    have y2 := (SE.at 0 rfl).free 2
    have z3 := (SE.at 1 rfl).cell 3 rfl
    have x3 := (SE.at 0 rfl).cell 3 rfl
    have y3 := (SE.at 0 rfl).free 3
    have z4 := (SE.at 1 rfl).cell 4 rfl
    have x4 := (SE.at 0 rfl).cell 4 rfl
    have y4 := (SE.at 0 rfl).free 4
    have hap : (Value.slice B mu.length cm).ownBlock ≠ some R := fun e => by have := (Od.out.lt R e).1; omega
    have hq := Lib.hid (((((SE.set 0 rfl 0 (.int .i64 a)).set 0 rfl 1 (.int .i64 b)).set 0 rfl 2 (.int .i64 c)).set 0 rfl 3 (.int .i64 d)).set 0 rfl 4 (.int .i64 n))
    have hO := Lib.hid (own_setB (own_setB (own_setB (own_setB (own_setB Od.out hap 0 (.int .i64 a)) hap 1 (.int .i64 b)) hap 2 (.int .i64 c)) hap 3 (.int .i64 d)) hap 4 (.int .i64 n))
    clear SE
    go_wp2_with fail
    have q0 := (hq.out.at 0 rfl).cell 0 rfl
    have q1 := (hq.out.at 0 rfl).cell 1 rfl
    have q2 := (hq.out.at 0 rfl).cell 2 rfl
    have q3 := (hq.out.at 0 rfl).cell 3 rfl
    have q4 := (hq.out.at 0 rfl).cell 4 rfl
    exact bodyPost_ret (v := .tuple #[.agg #[.int .i64 a, .int .i64 b, .int .i64 c, .int .i64 d, .int .i64 n], .slice B mu.length cm, .int .i64 (p - p' / 23)]) (by simp [results, Try.results13, go_sem, q0, q1, q2, q3, q4]) rfl ⟨a, b, c, d, n, mu, B, cm, (p - p' / 23), rfl, hk, own_lower hO.out (by omega), hq.out.cur.gw⟩
end Go.Proofs.Ythokcddabgojgaa
