/-
  Draws of the law of speeds.
-/
import Derived.Test.YthokcddabgojgaaSpF
import Derived.Test.YthokcddabgojgaaSpG
import Derived.Test.YthokcddabgojgaaPaceD
import Derived.Test.YthokcddabgojgaaMusic
namespace Go.Proofs.Ythokcddabgojgaa
open Go.RowKit

theorem Bxs.cursor {w W : World} {A : Option Addr} {bs : List UInt8} {cc : Nat} (hr : Rd w A bs) (hl : bs.length ≤ 9223372036854775807) (hW : Gw w W) {bx : List (Nat × Array Value × TypeId)} (hb : ∀ b ∈ bx, BoxR W b.1 b.2.1 b.2.2 ∧ w.heap.size ≤ b.1) (nd : (bx.map (fun b => b.1)).Nodup) :
    Bxs w w W.heap.size 0 (W.alloc (.cells #[.slice A bs.length cc, .int .i64 0, .int .u64 0] 61)) bx :=
  ⟨CurP.new hr hl hW, gw_grow (hW.alloc _) _, Nat.le_refl _, fun b h => ⟨(hb b h).1.gw ((Gw.refl W).alloc _), (hb b h).2, by have := (hb b h).1.lt; omega⟩, nd⟩

set_option maxHeartbeats 16000000 in
set_option maxRecDepth 20000 in
theorem d_MoveSpeed (A : Option Addr) (cc : Nat) (bs : List UInt8) (w : World) (hl : bs.length ≤ 9223372036854775807) (hr : Rd w A bs) :
    Calls Try.prog 10 #[.slice A bs.length cc] w fun e w' => ∃ a b c d n t : Int, e = .returned (.tuple #[.agg #[.int .i64 a, .int .i64 b, .int .i64 c, .int .i64 d, .int .i64 n], .int .i64 t]) ∧ Gw w w' := by
  have S0 := Bxs.cursor (cc := cc) hr hl ((Gw.refl w).alloc (.cells #[.int .i64 0, .int .i64 0, .int .i64 0, .int .i64 0, .int .i64 0] 39)) (bx := [(w.heap.size, #[.int .i64 0, .int .i64 0, .int .i64 0, .int .i64 0, .int .i64 0], 39)]) (fun b h => by simp only [List.mem_singleton] at h; subst h; exact ⟨BoxR.new w _ _, Nat.le_refl _⟩) (by simp)
  simp only [World.size_alloc] at S0
  go_enter Try.func10, Try.ntmps10
  go_wp2_with fail
  refine (s_move (w0 := w) S0.cur (by omega)).mono ?_
  rintro _ w1 ⟨a, b, c, d, n, rfl, -, hC1, hr1⟩
  have S1 := S0.call hC1 hr1
  clear S0 hC1 hr1
  go_wp2_with fail
  refine (s_anyTempo (w0 := w) S1.cur (by omega)).mono ?_
  rintro _ w2 ⟨t, rfl, -, hC2, hr2⟩
  have S2 := S1.call hC2 hr2
  clear S1 hC2 hr2
  have z0 := (S2.at 0 rfl).cell 0 rfl
  have y0 := (S2.at 0 rfl).free 0
  have z1 := (S2.at 0 rfl).cell 1 rfl
  have y1 := (S2.at 0 rfl).free 1
  have z2 := (S2.at 0 rfl).cell 2 rfl
  have y2 := (S2.at 0 rfl).free 2
  have z3 := (S2.at 0 rfl).cell 3 rfl
  have y3 := (S2.at 0 rfl).free 3
  have z4 := (S2.at 0 rfl).cell 4 rfl
  have y4 := (S2.at 0 rfl).free 4
  have hq := Lib.hid (((((S2.set 0 rfl 0 (.int .i64 a)).set 0 rfl 1 (.int .i64 b)).set 0 rfl 2 (.int .i64 c)).set 0 rfl 3 (.int .i64 d)).set 0 rfl 4 (.int .i64 n))
  clear S2
  go_wp2_with fail
  have q0 := (hq.out.at 0 rfl).cell 0 rfl
  have q1 := (hq.out.at 0 rfl).cell 1 rfl
  have q2 := (hq.out.at 0 rfl).cell 2 rfl
  have q3 := (hq.out.at 0 rfl).cell 3 rfl
  have q4 := (hq.out.at 0 rfl).cell 4 rfl
  exact bodyPost_ret (v := .tuple #[.agg #[.int .i64 a, .int .i64 b, .int .i64 c, .int .i64 d, .int .i64 n], .int .i64 t]) (by simp [results, Try.results10, go_sem, q0, q1, q2, q3, q4]) rfl ⟨a, b, c, d, n, t, rfl, hq.out.cur.gw⟩

set_option maxHeartbeats 16000000 in
set_option maxRecDepth 20000 in
theorem d_CountsAt (A : Option Addr) (cc : Nat) (bs : List UInt8) (w : World) (hl : bs.length ≤ 9223372036854775807) (hr : Rd w A bs) :
    Calls Try.prog 4 #[.slice A bs.length cc] w fun e w' => ∃ a b c d s t l : Int, e = .returned (.tuple #[.agg #[.int .i64 a, .int .i64 b], .agg #[.int .i64 c, .int .i64 d], .agg #[.int .i64 s, .int .i64 t], .int .i64 l]) ∧ Gw w w' := by
  have hG0 : Gw w (((w.alloc (.cells #[.int .i64 0, .int .i64 0] 24)).alloc (.cells #[.int .i64 0, .int .i64 0] 24)).alloc (.cells #[.int .i64 0, .int .i64 0] 26)) := (((Gw.refl w).alloc _).alloc _).alloc _
  have S0 := Bxs.cursor (cc := cc) hr hl hG0 (bx := [(w.heap.size, #[.int .i64 0, .int .i64 0], 24), (w.heap.size + 1, #[.int .i64 0, .int .i64 0], 24), (w.heap.size + 2, #[.int .i64 0, .int .i64 0], 26)]) (fun b h => by
    simp only [List.mem_cons, List.not_mem_nil, or_false] at h
    rcases h with rfl | rfl | rfl
    · exact ⟨((BoxR.new w #[.int .i64 0, .int .i64 0] 24).gw ((Gw.refl _).alloc _)).gw ((Gw.refl _).alloc _), Nat.le_refl _⟩
    · have := (BoxR.new (w.alloc (.cells #[.int .i64 0, .int .i64 0] 24)) #[.int .i64 0, .int .i64 0] 24).gw ((Gw.refl _).alloc (.cells #[.int .i64 0, .int .i64 0] 26))
      simp only [World.size_alloc] at this
      exact ⟨this, by dsimp only; omega⟩
    · have := BoxR.new ((w.alloc (.cells #[.int .i64 0, .int .i64 0] 24)).alloc (.cells #[.int .i64 0, .int .i64 0] 24)) #[.int .i64 0, .int .i64 0] 26
      simp only [World.size_alloc] at this
      exact ⟨this, by dsimp only; omega⟩) (by simp)
  simp only [World.size_alloc] at S0
  go_enter Try.func4, Try.ntmps4
  go_wp2_with fail
  refine (s_move (w0 := w) S0.cur (by omega)).mono ?_
  rintro _ w1 ⟨a, b, c, d, n, rfl, -, hC1, hr1⟩
  have S1 := (S0.call hC1 hr1).new #[.int .i64 a, .int .i64 b, .int .i64 c, .int .i64 d, .int .i64 n] 39
  simp only [List.cons_append, List.nil_append] at S1
  clear S0 hC1 hr1 hG0
  go_upto_region 3 with fail
  generalize (w1.alloc (.cells #[.int .i64 a, .int .i64 b, .int .i64 c, .int .i64 d, .int .i64 n] 39)) = w2 at *
  generalize w1.heap.size = M at *
  have K0 := Lib.hid S1.drew
  have z0 := (S1.at 3 rfl).cell 0 rfl
  have z1 := (S1.at 3 rfl).cell 1 rfl
  have z2 := (S1.at 3 rfl).cell 2 rfl
  have z3 := (S1.at 3 rfl).cell 3 rfl
  clear S1
  go_region_held3 (fun u => u.cell? ⟨M, 0, none⟩ = some (.int .i64 a) ∧ u.cell? ⟨M, 1, none⟩ = some (.int .i64 b) ∧ u.cell? ⟨M, 2, none⟩ = some (.int .i64 c) ∧ u.cell? ⟨M, 3, none⟩ = some (.int .i64 d)) (first | with_reducible assumption | go_keep)
    (first
      | (have K := K0.out; go_at_call 25; refine (s_pace (w0 := w) K.cur (by omega)).mono ?_; rintro _ wa ⟨s, t, rfl, -, hCa, hra⟩; have KA := Lib.hid (K.call hCa hra); clear K K0 hCa hra; have kS := And.intro ((KA.out.at 3 rfl).cell 0 rfl) (And.intro ((KA.out.at 3 rfl).cell 1 rfl) (And.intro ((KA.out.at 3 rfl).cell 2 rfl) ((KA.out.at 3 rfl).cell 3 rfl))))
      | (have K := KA.out; go_at_call 26; refine (s_speedLimit (w0 := w) K.cur (by omega)).mono ?_; rintro _ wb ⟨lim, rfl, -, hCb, hrb⟩; have K := K.call hCb hrb; clear KA kS hCb hrb; have kS := And.intro ((K.at 3 rfl).cell 0 rfl) (And.intro ((K.at 3 rfl).cell 1 rfl) (And.intro ((K.at 3 rfl).cell 2 rfl) ((K.at 3 rfl).cell 3 rfl))); have n01 := K.ne 0 1 rfl rfl (by decide); have n02 := K.ne 0 2 rfl rfl (by decide); have n03 := K.ne 0 3 rfl rfl (by decide); have n10 := K.ne 1 0 rfl rfl (by decide); have n12 := K.ne 1 2 rfl rfl (by decide); have n13 := K.ne 1 3 rfl rfl (by decide); have n20 := K.ne 2 0 rfl rfl (by decide); have n21 := K.ne 2 1 rfl rfl (by decide); have n23 := K.ne 2 3 rfl rfl (by decide); have n30 := K.ne 3 0 rfl rfl (by decide); have n31 := K.ne 3 1 rfl rfl (by decide); have n32 := K.ne 3 2 rfl rfl (by decide); have z00 := (K.at 0 rfl).cell 0 rfl; have y00 := (K.at 0 rfl).free 0; have z01 := (K.at 0 rfl).cell 1 rfl; have y01 := (K.at 0 rfl).free 1; have z10 := (K.at 1 rfl).cell 0 rfl; have y10 := (K.at 1 rfl).free 0; have z11 := (K.at 1 rfl).cell 1 rfl; have y11 := (K.at 1 rfl).free 1; have z20 := (K.at 2 rfl).cell 0 rfl; have y20 := (K.at 2 rfl).free 0; have z21 := (K.at 2 rfl).cell 1 rfl; have y21 := (K.at 2 rfl).free 1; have KF := Lib.hid ((((((K.set 0 rfl 0 (.int .i64 a)).set 0 rfl 1 (.int .i64 b)).set 1 rfl 0 (.int .i64 c)).set 1 rfl 1 (.int .i64 d)).set 2 rfl 0 (.int .i64 s)).set 2 rfl 1 (.int .i64 t)); have kF := And.intro ((KF.out.at 3 rfl).cell 0 rfl) (And.intro ((KF.out.at 3 rfl).cell 1 rfl) (And.intro ((KF.out.at 3 rfl).cell 2 rfl) ((KF.out.at 3 rfl).cell 3 rfl))))
      | fail)
  all_goals
    clear K kS kF
    go_wp2_with fail
    have q0 := (KF.out.at 0 rfl).cell 0 rfl
    have q1 := (KF.out.at 0 rfl).cell 1 rfl
    have q2 := (KF.out.at 1 rfl).cell 0 rfl
    have q3 := (KF.out.at 1 rfl).cell 1 rfl
    have q4 := (KF.out.at 2 rfl).cell 0 rfl
    have q5 := (KF.out.at 2 rfl).cell 1 rfl
    exact bodyPost_ret (v := .tuple #[.agg #[.int .i64 a, .int .i64 b], .agg #[.int .i64 c, .int .i64 d], .agg #[.int .i64 s, .int .i64 t], .int .i64 lim]) (by simp [results, Try.results4, go_sem, q0, q1, q2, q3, q4, q5]) rfl ⟨a, b, c, d, s, t, lim, rfl, KF.out.cur.gw⟩

end Go.Proofs.Ythokcddabgojgaa
