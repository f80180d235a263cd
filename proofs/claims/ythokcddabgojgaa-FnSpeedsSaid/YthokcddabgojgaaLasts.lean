/-
  How long a move lasts in music.
-/
import Derived.Test.YthokcddabgojgaaMusic
namespace Go.Proofs.Ythokcddabgojgaa
open Go.RowKit

open Classical in
noncomputable def moveLasts (a b c d n : Int) (l : List (Int × Int)) (f : Int) : Int × Bool := if MoveP a b c d n ∧ MusicP l ∧ 0 ≤ f ∧ f + n ≤ sumC l then (timeF l (f + n) - timeF l f, true) else (0, false)

set_option maxHeartbeats 1000000 in
theorem i_hasCounts (A : Option Addr) (c' : Nat) (l : List (Int × Int)) (f n : Int) (w : World) (hl : l.length ≤ 1048576) (hA : Rd w A l) (hn : 1 ≤ n ∧ n ≤ 64) :
    Calls Try.prog 46 #[.slice A l.length c', .int .i64 f, .int .i64 n] w (Tells (MusicP l ∧ 0 ≤ f ∧ f + n ≤ sumC l) w) := by
  have hbd : MusicP l → l.length ≤ sumC l ∧ sumC l ≤ 12 * l.length ∧ l.length ≤ 40 := fun h => ⟨(sumC_bd l h.1).1, (sumC_bd l h.1).2, h.2.2⟩
  obtain ⟨q, hq⟩ : ∃ q, sumC l = q := ⟨_, rfl⟩
  rw [hq] at hbd ⊢
  have Hq : Hid (sumC l = q) := hq
  clear hq
  go_enter Try.func46, Try.ntmps46
  go_wp2_with (first | (go_at_call 61; refine (i_IsMusic _ _ _ _ hl hA).mono ?_; rintro e w' (⟨hp, rfl, hb⟩ | ⟨hp, rfl, hb⟩) <;> first | (have hbq := hbd hp; have hc := hb.cells; have hf := hb.frozens; have hz := hb.size; (try simp at hz); (try have hz0 : w.heap.size < w'.heap.size := (by omega)); (try have hz1 : w.heap.size + 1 < w'.heap.size := (by omega)); (try have hz2 : w.heap.size + 2 < w'.heap.size := (by omega)); (try have hz3 : w.heap.size + 3 < w'.heap.size := (by omega)); (try have hz4 : w.heap.size + 4 < w'.heap.size := (by omega)); (try have hz5 : w.heap.size + 5 < w'.heap.size := (by omega)); have hA1 := hA.gw hb; have HM := Lib.hid hp) | (have hc := hb.cells; have hf := hb.frozens; have hz := hb.size; (try simp at hz); (try have hz0 : w.heap.size < w'.heap.size := (by omega)); (try have hz1 : w.heap.size + 1 < w'.heap.size := (by omega)); (try have hz2 : w.heap.size + 2 < w'.heap.size := (by omega)); (try have hz3 : w.heap.size + 3 < w'.heap.size := (by omega)); (try have hz4 : w.heap.size + 4 < w'.heap.size := (by omega)); (try have hz5 : w.heap.size + 5 < w'.heap.size := (by omega)))) | (go_at_call 62; refine (i_countsOf _ _ _ _ (by assumption : MusicP l).2.2 (by assumption : MusicP l).1 (by assumption)).mono ?_; rw [Hq.out]; rintro e w' ⟨rfl, hb⟩; have hc := hb.cells; have hf := hb.frozens; have hz := hb.size; (try simp at hz); (try have hz0 : w.heap.size < w'.heap.size := (by omega)); (try have hz1 : w.heap.size + 1 < w'.heap.size := (by omega)); (try have hz2 : w.heap.size + 2 < w'.heap.size := (by omega)); (try have hz3 : w.heap.size + 3 < w'.heap.size := (by omega)); (try have hz4 : w.heap.size + 4 < w'.heap.size := (by omega)); (try have hz5 : w.heap.size + 5 < w'.heap.size := (by omega)); have hA1 := (by assumption : Rd _ A l).gw hb) | (go_at_call 44; refine (i_within _ _ _ _).mono ?_; rintro e w' (⟨hp, rfl, rfl⟩ | ⟨hp, rfl, rfl⟩)))
  all_goals
    go_ret
    refine tells_of ?_ (by (repeat (first | with_reducible exact Gw.refl _ | with_reducible assumption | ((with_reducible refine Gw.set ?_ ?_ _); rotate_left; (focus (first | (simp; done) | (simp; omega) | omega))) | with_reducible refine Gw.alloc ?_ _ | with_reducible refine Gw.drew ?_ | with_reducible refine Gw.drewN ?_ _ | (refine Gw.trans ?_ (by with_reducible assumption)))))
    first
      | (have hM : MusicP l := by assumption
         have := hbd hM
         simp [hM]; try omega)
      | (have hM : ¬MusicP l := by assumption
         simp [hM])

set_option maxHeartbeats 2000000 in
theorem s_MoveLasts (a b c d n : Int) (A : Option Addr) (c' : Nat) (l : List (Int × Int)) (f : Int) (w : World) (hl : l.length ≤ 1048576) (hA : Rd w A l) :
    Calls Try.prog 15 #[.agg #[.int .i64 a, .int .i64 b, .int .i64 c, .int .i64 d, .int .i64 n], .slice A l.length c', .int .i64 f] w fun e w' => e = .returned (.tuple #[.int .i64 (moveLasts a b c d n l f).1, .bool (moveLasts a b c d n l f).2]) ∧ Gw w w' := by
  have hbd : MusicP l → l.length ≤ sumC l ∧ sumC l ≤ 12 * l.length ∧ l.length ≤ 40 := fun h => ⟨(sumC_bd l h.1).1, (sumC_bd l h.1).2, h.2.2⟩
  have htf : MusicP l → ∀ m : Int, 0 ≤ m → 0 ≤ timeF l m ∧ timeF l m ≤ 28800000 := fun h m hm => by have := timeF_bd l h.1 m hm; have := h.2.2; omega
  have Htf := Lib.hid htf
  clear htf
  by_cases hV : MoveP a b c d n
  case neg =>
    have HV := Lib.hid hV
    clear hV
    go_enter Try.func15, Try.ntmps15
    go_wp2_with ((with_reducible refine wp_region_gw (by kernel_rfl) (by kernel_rfl) ?_); have hcq := @GwOf.cell; (repeat (go_big_quiet_step (first | (go_at_call 56; exact GwOf.callF HV.out (s_mvGood _ _ _ _ _ _))))); refine wpQuiet_nil ?_; clear hcq; rintro w' ⟨⟨w', hb⟩, rfl⟩; (try dsimp only); have hc := hb.cells; have hf := hb.frozens; have hz := hb.size; (try simp at hz); (try have hz0 : w.heap.size < w'.heap.size := (by omega)); (try have hz1 : w.heap.size + 1 < w'.heap.size := (by omega)); (try have hz2 : w.heap.size + 2 < w'.heap.size := (by omega)); (try have hz3 : w.heap.size + 3 < w'.heap.size := (by omega)); (try have hz4 : w.heap.size + 4 < w'.heap.size := (by omega)); (try have hz5 : w.heap.size + 5 < w'.heap.size := (by omega)))
    go_ret2
    exact ⟨ret_ib (f := moveLasts a b c d n l f) (by unfold moveLasts; rw [if_neg (fun h => HV.out h.1)]), by (repeat (first | with_reducible exact Gw.refl _ | with_reducible assumption | ((with_reducible refine Gw.set ?_ ?_ _); rotate_left; (focus (first | (simp; done) | (simp; omega) | omega))) | with_reducible refine Gw.alloc ?_ _ | with_reducible refine Gw.drew ?_ | with_reducible refine Gw.drewN ?_ _ | (refine Gw.trans ?_ (by with_reducible assumption))))⟩
  by_cases hM : MusicP l
  case neg =>
    have HM := Lib.hid hM
    have HV := Lib.hid hV
    clear hM hV
    go_enter Try.func15, Try.ntmps15
    go_wp2_with ((with_reducible refine wp_region_gw (by kernel_rfl) (by kernel_rfl) ?_); have hcq := @GwOf.cell; (repeat (go_big_quiet_step (first | (go_at_call 56; exact GwOf.callT HV.out (s_mvGood _ _ _ _ _ _)) | (go_at_call 40; exact GwOf.callF HM.out (s_muGood _ _ _ _ hl (hA.gw (Gw.trans ((Gw.refl _).alloc _) (GwOf.gw _)))))))); refine wpQuiet_nil ?_; clear hcq; rintro w' ⟨⟨w', hb⟩, rfl⟩; (try dsimp only); have hc := hb.cells; have hf := hb.frozens; have hz := hb.size; (try simp at hz); (try have hz0 : w.heap.size < w'.heap.size := (by omega)); (try have hz1 : w.heap.size + 1 < w'.heap.size := (by omega)); (try have hz2 : w.heap.size + 2 < w'.heap.size := (by omega)); (try have hz3 : w.heap.size + 3 < w'.heap.size := (by omega)); (try have hz4 : w.heap.size + 4 < w'.heap.size := (by omega)); (try have hz5 : w.heap.size + 5 < w'.heap.size := (by omega)))
    go_ret2
    exact ⟨ret_ib (f := moveLasts a b c d n l f) (by unfold moveLasts; rw [if_neg (fun h => HM.out h.2.1)]), by (repeat (first | with_reducible exact Gw.refl _ | with_reducible assumption | ((with_reducible refine Gw.set ?_ ?_ _); rotate_left; (focus (first | (simp; done) | (simp; omega) | omega))) | with_reducible refine Gw.alloc ?_ _ | with_reducible refine Gw.drew ?_ | with_reducible refine Gw.drewN ?_ _ | (refine Gw.trans ?_ (by with_reducible assumption))))⟩
  have hb3 := hbd hM
  obtain ⟨q, hq⟩ : ∃ q, sumC l = q := ⟨_, rfl⟩
  rw [hq] at hb3
  have Hq : Hid (sumC l = q) := hq
  have HM := Lib.hid hM
  have HV := Lib.hid hV
  have hn := hV.2.2
  clear hq hM hV hbd
  by_cases hf : f < 0
  · go_enter Try.func15, Try.ntmps15
    go_wp2_with ((with_reducible refine wp_region_gw (by kernel_rfl) (by kernel_rfl) ?_); have hcq := @GwOf.cell; (repeat (go_big_quiet_step (first | (go_at_call 56; exact GwOf.callT HV.out (s_mvGood _ _ _ _ _ _)) | (go_at_call 40; exact GwOf.callT HM.out (s_muGood _ _ _ _ hl (hA.gw (Gw.trans ((Gw.refl _).alloc _) (GwOf.gw _)))))))); refine wpQuiet_nil ?_; clear hcq; rintro w' ⟨⟨w', hb⟩, rfl⟩; (try dsimp only); have hc := hb.cells; have hf := hb.frozens; have hz := hb.size; (try simp at hz); (try have hz0 : w.heap.size < w'.heap.size := (by omega)); (try have hz1 : w.heap.size + 1 < w'.heap.size := (by omega)); (try have hz2 : w.heap.size + 2 < w'.heap.size := (by omega)); (try have hz3 : w.heap.size + 3 < w'.heap.size := (by omega)); (try have hz4 : w.heap.size + 4 < w'.heap.size := (by omega)); (try have hz5 : w.heap.size + 5 < w'.heap.size := (by omega)))
    go_ret2
    exact ⟨ret_ib (f := moveLasts a b c d n l f) (by unfold moveLasts; rw [if_neg (fun h => by have := h.2.2.1; omega)]), by (repeat (first | with_reducible exact Gw.refl _ | with_reducible assumption | ((with_reducible refine Gw.set ?_ ?_ _); rotate_left; (focus (first | (simp; done) | (simp; omega) | omega))) | with_reducible refine Gw.alloc ?_ _ | with_reducible refine Gw.drew ?_ | with_reducible refine Gw.drewN ?_ _ | (refine Gw.trans ?_ (by with_reducible assumption))))⟩
  by_cases hs : q - n < f
  · have hd : decide (q - n < f) = true := by simpa using hs
    go_enter Try.func15, Try.ntmps15
    go_wp2_with ((with_reducible refine wp_region_gw (by kernel_rfl) (by kernel_rfl) ?_); have hcq := @GwOf.cell; (repeat (go_big_quiet_step (first | (go_at_call 56; exact GwOf.callT HV.out (s_mvGood _ _ _ _ _ _)) | (go_at_call 40; exact GwOf.callT HM.out (s_muGood _ _ _ _ hl (hA.gw (Gw.trans ((Gw.refl _).alloc _) (GwOf.gw _))))) | (go_at_call 43; refine GwOf.call (v := .int .i64 q) ?_; rw [← Hq.out]; exact s_muCounts _ _ _ _ HM.out.2.2 HM.out.1 (hA.gw (Gw.trans ((Gw.refl _).alloc _) (GwOf.gw _))))))); refine wpQuiet_nil ?_; clear hcq; rintro w' ⟨⟨w', hb⟩, rfl⟩; (try dsimp only); have hc := hb.cells; have hf := hb.frozens; have hz := hb.size; (try simp at hz); (try have hz0 : w.heap.size < w'.heap.size := (by omega)); (try have hz1 : w.heap.size + 1 < w'.heap.size := (by omega)); (try have hz2 : w.heap.size + 2 < w'.heap.size := (by omega)); (try have hz3 : w.heap.size + 3 < w'.heap.size := (by omega)); (try have hz4 : w.heap.size + 4 < w'.heap.size := (by omega)); (try have hz5 : w.heap.size + 5 < w'.heap.size := (by omega)))
    go_ret2
    exact ⟨ret_ib (f := moveLasts a b c d n l f) (by unfold moveLasts; rw [if_neg (fun h => by have h4 := h.2.2.2; rw [Hq.out] at h4; omega)]), by (repeat (first | with_reducible exact Gw.refl _ | with_reducible assumption | ((with_reducible refine Gw.set ?_ ?_ _); rotate_left; (focus (first | (simp; done) | (simp; omega) | omega))) | with_reducible refine Gw.alloc ?_ _ | with_reducible refine Gw.drew ?_ | with_reducible refine Gw.drewN ?_ _ | (refine Gw.trans ?_ (by with_reducible assumption))))⟩
  · have hd : decide (q - n < f) = false := by simpa using hs
    have ht1 := Htf.out HM.out (f + n) (by omega)
    have ht2 := Htf.out HM.out f (by omega)
    go_enter Try.func15, Try.ntmps15
    go_wp2_with (first | (((with_reducible refine wp_region_gw (by kernel_rfl) (by kernel_rfl) ?_); have hcq := @GwOf.cell; (repeat (go_big_quiet_step (first | (go_at_call 56; exact GwOf.callT HV.out (s_mvGood _ _ _ _ _ _)) | (go_at_call 40; exact GwOf.callT HM.out (s_muGood _ _ _ _ hl (hA.gw (Gw.trans ((Gw.refl _).alloc _) (GwOf.gw _))))) | (go_at_call 43; refine GwOf.call (v := .int .i64 q) ?_; rw [← Hq.out]; exact s_muCounts _ _ _ _ HM.out.2.2 HM.out.1 (hA.gw (Gw.trans ((Gw.refl _).alloc _) (GwOf.gw _))))))); refine wpQuiet_nil ?_; clear hcq; rintro w' ⟨⟨w', hb⟩, rfl⟩; (try dsimp only); have hc := hb.cells; have hf := hb.frozens; have hz := hb.size; (try simp at hz); (try have hz0 : w.heap.size < w'.heap.size := (by omega)); (try have hz1 : w.heap.size + 1 < w'.heap.size := (by omega)); (try have hz2 : w.heap.size + 2 < w'.heap.size := (by omega)); (try have hz3 : w.heap.size + 3 < w'.heap.size := (by omega)); (try have hz4 : w.heap.size + 4 < w'.heap.size := (by omega)); (try have hz5 : w.heap.size + 5 < w'.heap.size := (by omega))); have hA1 : Rd w' A l := hA.gw (Gw.trans ((Gw.refl _).alloc _) hb)) | (go_at_call 60; refine (s_muTime _ _ _ _ _ HM.out.2.2 HM.out.1 (by omega) (by assumption)).mono ?_; rintro e w' ⟨rfl, hb⟩; have hc := hb.cells; have hf := hb.frozens; have hz := hb.size; (try simp at hz); (try have hz0 : w.heap.size < w'.heap.size := (by omega)); (try have hz1 : w.heap.size + 1 < w'.heap.size := (by omega)); (try have hz2 : w.heap.size + 2 < w'.heap.size := (by omega)); (try have hz3 : w.heap.size + 3 < w'.heap.size := (by omega)); (try have hz4 : w.heap.size + 4 < w'.heap.size := (by omega)); (try have hz5 : w.heap.size + 5 < w'.heap.size := (by omega)); have hA1 := (by assumption : Rd _ A l).gw hb))
    go_ret2
    exact ⟨ret_ib (f := moveLasts a b c d n l f) (by unfold moveLasts; rw [if_pos ⟨HV.out, HM.out, by omega, by rw [Hq.out]; omega⟩]), by (repeat (first | with_reducible exact Gw.refl _ | with_reducible assumption | ((with_reducible refine Gw.set ?_ ?_ _); rotate_left; (focus (first | (simp; done) | (simp; omega) | omega))) | with_reducible refine Gw.alloc ?_ _ | with_reducible refine Gw.drew ?_ | with_reducible refine Gw.drewN ?_ _ | (refine Gw.trans ?_ (by with_reducible assumption))))⟩

set_option maxHeartbeats 2000000 in
theorem i_MoveLasts (a b c d n : Int) (A : Option Addr) (c' : Nat) (l : List (Int × Int)) (f : Int) (w : World) (hl : l.length ≤ 1048576) (hA : Rd w A l) :
    Calls Try.prog 14 #[.agg #[.int .i64 a, .int .i64 b, .int .i64 c, .int .i64 d, .int .i64 n], .slice A l.length c', .int .i64 f] w fun e w' => e = .returned (.tuple #[.int .i64 (moveLasts a b c d n l f).1, .bool (moveLasts a b c d n l f).2]) ∧ Gw w w' := by
  have hbd : MusicP l → l.length ≤ sumC l ∧ sumC l ≤ 12 * l.length ∧ l.length ≤ 40 := fun h => ⟨(sumC_bd l h.1).1, (sumC_bd l h.1).2, h.2.2⟩
  have htf : MusicP l → ∀ m : Int, 0 ≤ m → 0 ≤ timeF l m ∧ timeF l m ≤ 28800000 := fun h m hm => by have := timeF_bd l h.1 m hm; have := h.2.2; omega
  have Htf := Lib.hid htf
  clear htf
  have hAs : Rd (w.alloc (.cells #[.int .i64 a, .int .i64 b, .int .i64 c, .int .i64 d, .int .i64 n] 39)) A l := hA.gw ((Gw.refl _).alloc _)
  by_cases hV : MoveP a b c d n
  case neg =>
    go_enter Try.func14, Try.ntmps14
    go_wp2_with (go_at_call 52; refine (i_IsMove _ _ _ _ _ _).mono ?_; rintro e w' (⟨hp, rfl, hb⟩ | ⟨hp, rfl, hb⟩) <;> (have hc := hb.cells; have hf := hb.frozens; have hz := hb.size; (try simp at hz); (try have hz0 : w.heap.size < w'.heap.size := (by omega)); (try have hz1 : w.heap.size + 1 < w'.heap.size := (by omega)); (try have hz2 : w.heap.size + 2 < w'.heap.size := (by omega)); (try have hz3 : w.heap.size + 3 < w'.heap.size := (by omega)); (try have hz4 : w.heap.size + 4 < w'.heap.size := (by omega)); (try have hz5 : w.heap.size + 5 < w'.heap.size := (by omega))))
    all_goals first | (exfalso; contradiction) | (exfalso; omega) | skip
    go_ret2
    exact ⟨ret_ib (f := moveLasts a b c d n l f) (by unfold moveLasts; rw [if_neg (fun h => hV h.1)]), by (repeat (first | with_reducible exact Gw.refl _ | with_reducible assumption | ((with_reducible refine Gw.set ?_ ?_ _); rotate_left; (focus (first | (simp; done) | (simp; omega) | omega))) | with_reducible refine Gw.alloc ?_ _ | with_reducible refine Gw.drew ?_ | with_reducible refine Gw.drewN ?_ _ | (refine Gw.trans ?_ (by with_reducible assumption))))⟩
  have HV := Lib.hid hV
  by_cases hC : MusicP l ∧ 0 ≤ f ∧ f + n ≤ sumC l
  case neg =>
    have HC := Lib.hid hC
    clear hC
    go_enter Try.func14, Try.ntmps14
    go_wp2_with (first | (go_at_call 52; refine (i_IsMove _ _ _ _ _ _).mono ?_; rintro e w' (⟨hp, rfl, hb⟩ | ⟨hp, rfl, hb⟩) <;> (have hc := hb.cells; have hf := hb.frozens; have hz := hb.size; (try simp at hz); (try have hz0 : w.heap.size < w'.heap.size := (by omega)); (try have hz1 : w.heap.size + 1 < w'.heap.size := (by omega)); (try have hz2 : w.heap.size + 2 < w'.heap.size := (by omega)); (try have hz3 : w.heap.size + 3 < w'.heap.size := (by omega)); (try have hz4 : w.heap.size + 4 < w'.heap.size := (by omega)); (try have hz5 : w.heap.size + 5 < w'.heap.size := (by omega)); have hA1 := hAs.gw hb)) | (go_at_call 46; refine (i_hasCounts _ _ _ _ _ _ hl (by assumption) (by omega)).mono ?_; rintro e w' (⟨hp, rfl, hb⟩ | ⟨hp, rfl, hb⟩) <;> (have hc := hb.cells; have hf := hb.frozens; have hz := hb.size; (try simp at hz); (try have hz0 : w.heap.size < w'.heap.size := (by omega)); (try have hz1 : w.heap.size + 1 < w'.heap.size := (by omega)); (try have hz2 : w.heap.size + 2 < w'.heap.size := (by omega)); (try have hz3 : w.heap.size + 3 < w'.heap.size := (by omega)); (try have hz4 : w.heap.size + 4 < w'.heap.size := (by omega)); (try have hz5 : w.heap.size + 5 < w'.heap.size := (by omega)); have hA1 := (by assumption : Rd _ A l).gw hb)))
    all_goals first | (exfalso; exact HC.out (by assumption)) | (exfalso; contradiction) | skip
    all_goals
      go_ret2
      exact ⟨ret_ib (f := moveLasts a b c d n l f) (by unfold moveLasts; rw [if_neg (fun h => HC.out h.2)]), by (repeat (first | with_reducible exact Gw.refl _ | with_reducible assumption | ((with_reducible refine Gw.set ?_ ?_ _); rotate_left; (focus (first | (simp; done) | (simp; omega) | omega))) | with_reducible refine Gw.alloc ?_ _ | with_reducible refine Gw.drew ?_ | with_reducible refine Gw.drewN ?_ _ | (refine Gw.trans ?_ (by with_reducible assumption))))⟩
  have hb3 := hbd hC.1
  obtain ⟨q, hq⟩ : ∃ q, sumC l = q := ⟨_, rfl⟩
  have Hq : Hid (sumC l = q) := hq
  rw [hq] at hb3
  have hf0 := hC.2.1
  have hf1 : f + n ≤ q := by rw [← hq]; exact hC.2.2
  have HM : Hid (MusicP l) := hC.1
  have HC := Lib.hid hC
  clear hC hbd hq
  have ht1 := Htf.out HM.out (f + n) (by omega)
  have ht2 := Htf.out HM.out f (by omega)
  go_enter Try.func14, Try.ntmps14
  go_wp2_with (first | (go_at_call 52; refine (i_IsMove _ _ _ _ _ _).mono ?_; rintro e w' (⟨hp, rfl, hb⟩ | ⟨hp, rfl, hb⟩) <;> (have hc := hb.cells; have hf := hb.frozens; have hz := hb.size; (try simp at hz); (try have hz0 : w.heap.size < w'.heap.size := (by omega)); (try have hz1 : w.heap.size + 1 < w'.heap.size := (by omega)); (try have hz2 : w.heap.size + 2 < w'.heap.size := (by omega)); (try have hz3 : w.heap.size + 3 < w'.heap.size := (by omega)); (try have hz4 : w.heap.size + 4 < w'.heap.size := (by omega)); (try have hz5 : w.heap.size + 5 < w'.heap.size := (by omega)); have hA1 := hAs.gw hb)) | (go_at_call 46; refine (i_hasCounts _ _ _ _ _ _ hl (by assumption) (by omega)).mono ?_; rintro e w' (⟨HP, rfl, hb⟩ | ⟨HP, rfl, hb⟩) <;> (first | exact absurd HC.out HP | skip) <;> (have HP2 := Lib.hid HP; clear HP; have hc := hb.cells; have hf := hb.frozens; have hz := hb.size; (try simp at hz); (try have hz0 : w.heap.size < w'.heap.size := (by omega)); (try have hz1 : w.heap.size + 1 < w'.heap.size := (by omega)); (try have hz2 : w.heap.size + 2 < w'.heap.size := (by omega)); (try have hz3 : w.heap.size + 3 < w'.heap.size := (by omega)); (try have hz4 : w.heap.size + 4 < w'.heap.size := (by omega)); (try have hz5 : w.heap.size + 5 < w'.heap.size := (by omega)); have hA1 := (by assumption : Rd _ A l).gw hb)) | (go_at_call 59; refine (i_timeOf _ _ _ _ _ HM.out.2.2 HM.out.1 (by omega) (by assumption)).mono ?_; rintro e w' ⟨rfl, hb⟩; have hc := hb.cells; have hf := hb.frozens; have hz := hb.size; (try simp at hz); (try have hz0 : w.heap.size < w'.heap.size := (by omega)); (try have hz1 : w.heap.size + 1 < w'.heap.size := (by omega)); (try have hz2 : w.heap.size + 2 < w'.heap.size := (by omega)); (try have hz3 : w.heap.size + 3 < w'.heap.size := (by omega)); (try have hz4 : w.heap.size + 4 < w'.heap.size := (by omega)); (try have hz5 : w.heap.size + 5 < w'.heap.size := (by omega)); have hA1 := (by assumption : Rd _ A l).gw hb))
  all_goals first | (exfalso; contradiction) | skip
  go_ret2
  exact ⟨ret_ib (f := moveLasts a b c d n l f) (by unfold moveLasts; rw [if_pos ⟨HV.out, HM.out, by omega, by rw [Hq.out]; omega⟩]), by (repeat (first | with_reducible exact Gw.refl _ | with_reducible assumption | ((with_reducible refine Gw.set ?_ ?_ _); rotate_left; (focus (first | (simp; done) | (simp; omega) | omega))) | with_reducible refine Gw.alloc ?_ _ | with_reducible refine Gw.drew ?_ | with_reducible refine Gw.drewN ?_ _ | (refine Gw.trans ?_ (by with_reducible assumption))))⟩

end Go.Proofs.Ythokcddabgojgaa
