/-
  Draws of a spoilt text.
-/
import Derived.Test.YtgbgmmdpldekbaaDoorCur
import Derived.Test.YtgbgmmdpldekbaaDoorNumS
namespace Go.Proofs.YtgbgmmdpldekbaaDoor
open Go.RowKit

theorem cut_size {t : ByteArray} {i : Nat} (h : i ≤ t.size) : (t.extract 0 i).size = i ∧ (t.extract i t.size).size = t.size - i := by
  constructor
  · rw [ByteArray.size_extract]; omega
  · rw [ByteArray.size_extract]; omega
set_option maxHeartbeats 8000000 in
set_option maxRecDepth 20000 in
theorem s_spoilt {w0 w : World} {g m : Nat} (hC : CurP w0 w g m) (hm : m ≤ 100000000) (t wd : ByteArray) (ht : t.size ≤ 100000) (hw1 : 1 ≤ wd.size) (hw2 : wd.size ≤ 100) :
    Calls Tryd.prog 83 #[.pointer (some ⟨g, 0, none⟩), .string t, .string wd] w fun e w' => ∃ t' : ByteArray, e = .returned (.string t') ∧ t'.size ≤ t.size + 2 ∧ CurP w0 w' g (m + 100) ∧ w.grownBy w' (some g) := by
  obtain ⟨n, hn⟩ : ∃ n, Hid (t.size = n) := ⟨_, rfl⟩
  rw [hn.out] at ht ⊢
  have hlt := CurP.lt hC
  go_enter Tryd.func83, Tryd.ntmps83
  go_wp2_with fail
  refine (c_pick (w0 := w0) hC (by omega) (by omega)).mono ?_
  rintro _ w1 ⟨v, rfl, ⟨hv1, hv2, hv3⟩, hC1, hr1⟩
  have hv4 := hv3 (by omega)
  obtain ⟨kk, rfl⟩ : ∃ kk : Nat, v = kk := ⟨v.toNat, by omega⟩
  have wk : IntKind.i64.wrap (1 + (kk : Int)) = ((kk + 1 : Nat) : Int) := by rw [IntWalk.i64_in _ (by omega)]; omega
  have hcur := Lib.hid (And.intro hC1 hr1)
  clear hC1 hr1 hv3
  go_wp2_with fail
  go_loopw [1, 7, 8, 9, 44, 55] (fun s q _ _ _ _ wr => ∃ (k : Nat) (t : ByteArray), q = .int .i64 k ∧ s = .string t ∧ k ≤ 2 ∧ t.size + k ≤ n + 2 ∧ Hid (CurP w0 wr g (m + 2 + 10 * (2 - k)) ∧ w.grownBy wr (some g))) (fun _ q _ _ _ _ _ => (intOf q).toNat)
  case atStart => exact ⟨kk + 1, t, by go_num, rfl, by omega, by rw [hn.out]; omega, ⟨hcur.out.1.mono (by omega), hcur.out.2⟩⟩
  case round =>
    clear hcur hn
    clear t
    obtain ⟨k, t, rfl, rfl, hk, hsz, hcur⟩ := hrel
    obtain ⟨wo, rfl⟩ : ∃ wo : World, wo = wr := ⟨_, rfl⟩
    by_cases hk0 : k = 0
    · subst hk0
      go_wp2_with fail
      go_ret
      exact ⟨t, rfl, by omega, hcur.out.1.mono (by omega), hcur.out.2⟩
    have hkz : (0 : Int) < (k : Int) := by omega
    by_cases ht0 : t.size = 0
    · have htz : ¬(0 : Int) < (t.size : Int) := by omega
      go_wp2_with fail
      go_ret
      exact ⟨t, rfl, by omega, hcur.out.1.mono (by omega), hcur.out.2⟩
    have htz : (0 : Int) < (t.size : Int) := by omega
    go_wp2_with fail
    refine (c_pick (w0 := w0) hcur.out.1 (by omega) (by omega)).mono ?_
    rintro _ w2 ⟨i0, rfl, ⟨hi1, hi2, hi3⟩, hC2, hr2⟩
    have hi4 := hi3 (by omega)
    obtain ⟨i, rfl⟩ : ∃ i : Nat, i0 = i := ⟨i0.toNat, by omega⟩
    have hgw2 := grownBy_trans hcur.out.2 hr2
    clear hi3 hr2
    go_wp2_with fail
    refine (c_pick (w0 := w0) hC2 (by omega) (by omega)).mono ?_
    rintro _ w3 ⟨j0, rfl, ⟨hj1, hj2, hj3⟩, hC3, hr3⟩
    have hj4 := hj3 (by omega)
    obtain ⟨j, rfl⟩ : ∃ j : Nat, j0 = j := ⟨j0.toNat, by omega⟩
    have hjl : j < wd.size := by omega
    have hgw3 := grownBy_trans hgw2 hr3
    have hcv := conv_one (u := w3.alloc (.cells #[.int .u8 ((wd[j]).toNat : Int)] 5)) (g := w3.heap.size) (d := ((wd[j]).toNat : Int)) ((BoxR.new w3 #[.int .u8 ((wd[j]).toNat : Int)] 5).cell 0 rfl)
    obtain ⟨D, hD⟩ : ∃ D : ByteArray, Hid (D = (⟨#[UInt8.ofNat ((wd[j]).toNat : Int).toNat]⟩ : ByteArray)) := ⟨(⟨#[UInt8.ofNat ((wd[j]).toNat : Int).toNat]⟩ : ByteArray), Lib.hid rfl⟩
    rw [← hD.out] at hcv
    have hDs : D.size = 1 := by rw [hD.out]; rfl
    have HC3 := Lib.hid (hC3.alloc (.cells #[.int .u8 ((wd[j]).toNat : Int)] 5))
    have HG3 := Lib.hid (grow_alloc hgw3 (.cells #[.int .u8 ((wd[j]).toNat : Int)] 5))
    clear hj3 hr3 hC2 hC3 hgw2 hgw3 hD
    go_wp2_with fail
    refine (c_pick (w0 := w0) HC3.out (by omega) (by omega)).mono ?_
    rintro _ w4 ⟨q, rfl, ⟨hq1, hq2, hq3⟩, hC4, hr4⟩
    have hgw4 := grownBy_trans HG3.out hr4
    have wkk : IntKind.i64.wrap ((k : Int) - 1) = ((k - 1 : Nat) : Int) := by rw [IntWalk.i64_in _ (by omega)]; omega
    have wi : IntKind.i64.wrap ((i : Int) + 1) = ((i + 1 : Nat) : Int) := by rw [IntWalk.i64_in _ (by omega)]; omega
    have hiz : (0 : Int) ≤ (i : Int) := by omega
    have his : (i : Int) ≤ (t.size : Int) := by omega
    have his2 : ((i + 1 : Nat) : Int) ≤ (t.size : Int) := by omega
    have hiz2 : (0 : Int) ≤ ((i + 1 : Nat) : Int) := by omega
    have z1 := (cut_size (t := t) (i := i) (by omega)).1
    have z2 := (cut_size (t := t) (i := i) (by omega)).2
    have z3 := (cut_size (t := t) (i := i + 1) (by omega)).2
    have p1 : ¬9223372036854775807 < (t.extract 0 i).size + D.size := by omega
    have p2 : ¬9223372036854775807 < (t.extract 0 i ++ D).size + (t.extract i t.size).size := by rw [ByteArray.size_append]; omega
    have p3 : ¬9223372036854775807 < (t.extract 0 i ++ D).size + (t.extract (i + 1) t.size).size := by rw [ByteArray.size_append]; omega
    have p4 : ¬9223372036854775807 < (t.extract 0 i).size + (t.extract (i + 1) t.size).size := by omega
    have Hcur4 := Lib.hid (And.intro hC4 hgw4)
    clear hq3 hr4 hC4 hgw4 hcv HC3 HG3 hcur
    by_cases h0 : q = 0
    · subst h0
      have hn1 : Hid ((t.extract 0 i ++ D ++ t.extract i t.size).size + (k - 1) ≤ n + 2) := by unfold Hid; rw [ByteArray.size_append, ByteArray.size_append]; omega
      clear z1 z2 z3
      go_wp2_with fail
      ((with_reducible refine wp_region_gw (by kernel_rfl) (by kernel_rfl) ?_); have hcq := @GwOf.cell; (repeat (go_big_quiet_step (fail))); refine wpQuiet_nil ?_; clear hcq; rintro w' ⟨⟨w', hb⟩, rfl⟩; (try dsimp only); have hc := hb.cells; have hf := hb.frozens; have hz := hb.size; (try simp at hz); (try have hz0 : w.heap.size < w'.heap.size := (by omega)); (try have hz1 : w.heap.size + 1 < w'.heap.size := (by omega)); (try have hz2 : w.heap.size + 2 < w'.heap.size := (by omega)); (try have hz3 : w.heap.size + 3 < w'.heap.size := (by omega)); (try have hz4 : w.heap.size + 4 < w'.heap.size := (by omega)); (try have hz5 : w.heap.size + 5 < w'.heap.size := (by omega)))
      go_wp2_with fail
      go_roundw
      case rel => exact ⟨k - 1, _, by go_num, rfl, by omega, hn1.out, ⟨(Hcur4.out.1.to hb).mono (by omega), grownBy_trans Hcur4.out.2 (gw_grow hb g)⟩⟩
      case measure => simp [intOf]; omega
    by_cases h1 : q = 1
    · subst h1
      have hn1 : Hid ((t.extract 0 i ++ D ++ t.extract (i + 1) t.size).size + (k - 1) ≤ n + 2) := by unfold Hid; rw [ByteArray.size_append, ByteArray.size_append]; omega
      clear z1 z2 z3
      go_wp2_with fail
      ((with_reducible refine wp_region_gw (by kernel_rfl) (by kernel_rfl) ?_); have hcq := @GwOf.cell; (repeat (go_big_quiet_step (fail))); refine wpQuiet_nil ?_; clear hcq; rintro w' ⟨⟨w', hb⟩, rfl⟩; (try dsimp only); have hc := hb.cells; have hf := hb.frozens; have hz := hb.size; (try simp at hz); (try have hz0 : w.heap.size < w'.heap.size := (by omega)); (try have hz1 : w.heap.size + 1 < w'.heap.size := (by omega)); (try have hz2 : w.heap.size + 2 < w'.heap.size := (by omega)); (try have hz3 : w.heap.size + 3 < w'.heap.size := (by omega)); (try have hz4 : w.heap.size + 4 < w'.heap.size := (by omega)); (try have hz5 : w.heap.size + 5 < w'.heap.size := (by omega)))
      go_wp2_with fail
      go_roundw
      case rel => exact ⟨k - 1, _, by go_num, rfl, by omega, hn1.out, ⟨(Hcur4.out.1.to hb).mono (by omega), grownBy_trans Hcur4.out.2 (gw_grow hb g)⟩⟩
      case measure => simp [intOf]; omega
    have b0 : (q == 0) = false := by simp [h0]
    have b1 : (q == 1) = false := by simp [h1]
    have hn1 : Hid ((t.extract 0 i ++ t.extract (i + 1) t.size).size + (k - 1) ≤ n + 2) := by unfold Hid; rw [ByteArray.size_append]; omega
    clear z1 z2 z3
    go_wp2_with fail
    ((with_reducible refine wp_region_gw (by kernel_rfl) (by kernel_rfl) ?_); have hcq := @GwOf.cell; (repeat (go_big_quiet_step (fail))); refine wpQuiet_nil ?_; clear hcq; rintro w' ⟨⟨w', hb⟩, rfl⟩; (try dsimp only); have hc := hb.cells; have hf := hb.frozens; have hz := hb.size; (try simp at hz); (try have hz0 : w.heap.size < w'.heap.size := (by omega)); (try have hz1 : w.heap.size + 1 < w'.heap.size := (by omega)); (try have hz2 : w.heap.size + 2 < w'.heap.size := (by omega)); (try have hz3 : w.heap.size + 3 < w'.heap.size := (by omega)); (try have hz4 : w.heap.size + 4 < w'.heap.size := (by omega)); (try have hz5 : w.heap.size + 5 < w'.heap.size := (by omega)))
    go_wp2_with fail
    go_roundw
    case rel => exact ⟨k - 1, _, by go_num, rfl, by omega, hn1.out, ⟨(Hcur4.out.1.to hb).mono (by omega), grownBy_trans Hcur4.out.2 (gw_grow hb g)⟩⟩
    case measure => simp [intOf]; omega
end Go.Proofs.YtgbgmmdpldekbaaDoor
