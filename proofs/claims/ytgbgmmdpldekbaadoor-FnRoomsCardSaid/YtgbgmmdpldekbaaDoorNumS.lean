/-
  The reference's numbers in decimal.
-/
import Derived.Test.YtgbgmmdpldekbaaDoorBuild
import Derived.Deep.RegionLaw
import Derived.Laws.BytesArg
namespace Go.Proofs.YtgbgmmdpldekbaaDoor
open Go.RowKit

theorem numS_small {n : Int} (h0 : 0 ≤ n) (h1 : n < 10) : numS n = ⟨#[UInt8.ofNat (48 + n.toNat)]⟩ := by
  unfold numS Lib.itoa
  rw [if_neg (by omega), Lib.decDigits, dif_pos (by omega)]
theorem numS_big {n : Int} (h0 : 10 ≤ n) : numS n = numS (n / 10) ++ ⟨#[UInt8.ofNat (48 + (n % 10).toNat)]⟩ := by
  unfold numS Lib.itoa
  rw [if_neg (by omega), if_neg (by omega), Lib.decDigits, dif_neg (by omega), show (n / 10).toNat = n.toNat / 10 by omega, show (n % 10).toNat = n.toNat % 10 by omega]
  rw [show (⟨#[UInt8.ofNat (48 + n.toNat % 10)]⟩ : ByteArray) = ByteArray.mk ([UInt8.ofNat (48 + n.toNat % 10)] : List UInt8).toArray by rfl, ByteArray.mk_append_mk]

theorem ret_str {a b : ByteArray} (h : a = b) : Ending.returned (.string a) = .returned (.string b) := by rw [h]
theorem conv_one {u : World} {g : Nat} {d : Int} (h : u.cell? ⟨g, 0, none⟩ = some (.int .u8 d)) : (convert 22 9 (.slice (some ⟨g, 0, none⟩) 1 1)).run Tryd.prog u = .ok (.string ⟨#[UInt8.ofNat d.toNat]⟩) u := by
  have := run_convert_bytes_arg (P := Tryd.prog) u 22 5 Tryd.underlying22 Tryd.underlying5 g 0 1 1 [d] rfl (fun i hi => by
    obtain rfl : i = 0 := by omega
    exact h) 9 Tryd.underlying9
  rw [this]
  rfl
set_option maxHeartbeats 4000000 in
set_option maxRecDepth 20000 in
theorem s_l1Num : ∀ (k : Nat) (n : Int), 0 ≤ n → n < (k : Int) + 10 → n ≤ 999999 → ∀ w : World,
    Calls Tryd.prog 57 #[.int .i64 n] w fun e w' => e = .returned (.string (numS n)) ∧ Gw w w' := by
  intro k
  induction k with
  | zero =>
    intro n h0 h1 h2 w
    have hs := Lib.hid (numS_small h0 (by omega))
    have hcv := conv_one (u := w.alloc (.cells #[.int .u8 (48 + n)] 5)) (g := w.heap.size) (d := 48 + n) ((BoxR.new w #[.int .u8 (48 + n)] 5).cell 0 rfl)
    rw [show (48 + n).toNat = 48 + n.toNat by omega, ← hs.out] at hcv
    go_enter Tryd.func57, Tryd.ntmps57
    go_wp2_with fail
    go_ret
    exact ⟨rfl, by (repeat (first | with_reducible exact Gw.refl _ | with_reducible assumption | ((with_reducible refine Gw.set ?_ ?_ _); rotate_left; (focus (first | (simp; done) | (simp; omega) | omega))) | with_reducible refine Gw.alloc ?_ _ | with_reducible refine Gw.drew ?_ | with_reducible refine Gw.drewN ?_ _ | (refine Gw.trans ?_ (by with_reducible assumption))))⟩
  | succ k ih =>
    intro n h0 h1 h2 w
    by_cases hlt : n < 10
    · exact ih n h0 (by omega) h2 w
    have hb := Lib.hid (numS_big (n := n) (by omega))
    have hq0 : 0 ≤ n / 10 := by omega
    have hq1 : n / 10 < (k : Int) + 10 := by omega
    have hq2 : n / 10 ≤ 999999 := by omega
    have hz := numS_size hq0 hq2
    have hr0 : 0 ≤ n % 10 := by omega
    have hr1 : n % 10 < 10 := by omega
    have ht1 : n.tdiv 10 = n / 10 := Int.tdiv_eq_ediv_of_nonneg h0
    have ht2 : n.tmod 10 = n % 10 := Int.tmod_eq_emod_of_nonneg h0
    have IH := Lib.hid (ih (n / 10) hq0 hq1 hq2)
    have hcv := fun (u : World) (g : Nat) (h : u.cell? ⟨g, 0, none⟩ = some (.int .u8 (48 + n % 10))) => conv_one h
    rw [show (48 + n % 10).toNat = 48 + (n % 10).toNat by omega] at hcv
    obtain ⟨D, hD⟩ : ∃ D, Hid (D = (⟨#[UInt8.ofNat (48 + (n % 10).toNat)]⟩ : ByteArray)) := ⟨_, rfl⟩
    rw [← hD.out] at hcv
    have hfin : Hid (numS (n / 10) ++ D = numS n) := by unfold Hid; rw [hb.out, hD.out]
    have hDs : D.size = 1 := by rw [hD.out]; rfl
    have hcv2 := fun (u : World) => hcv (u.alloc (.cells #[.int .u8 (48 + n % 10)] 5)) u.heap.size ((BoxR.new u #[.int .u8 (48 + n % 10)] 5).cell 0 rfl)
    have hcv3 := hcv (w.alloc (.cells #[.int .u8 (48 + n % 10)] 5)).drew w.heap.size (((BoxR.new w #[.int .u8 (48 + n % 10)] 5).gw ((Gw.refl _).drew)).cell 0 rfl)
    have HC := Lib.hid hcv
    have w1 : IntKind.i64.wrap (n / 10) = n / 10 := IntWalk.i64_in _ (by omega)
    have w2 : IntKind.i64.wrap (48 + n % 10) = 48 + n % 10 := IntWalk.i64_in _ (by omega)
    have w3 : IntKind.u8.wrap (48 + n % 10) = 48 + n % 10 := IntWalk.u8_in _ (by omega)
    have hp : ¬9223372036854775807 < (numS (n / 10)).size + D.size := by omega
    clear hDs
    clear ih hcv
    go_enter Tryd.func57, Tryd.ntmps57
    go_wp2_with fail
    go_region_with (first | (go_at_call 57; refine (IH.out _).mono ?_; rintro e w5 ⟨rfl, hb5⟩; (try (have hcx := HC.out w5 w.heap.size (((BoxR.new w.drew #[.int .u8 (48 + n % 10)] 5).gw hb5).cell 0 rfl)))))
    all_goals
      go_wp2_with fail
      go_ret
      exact ⟨ret_str hfin.out, by (repeat (first | with_reducible exact Gw.refl _ | with_reducible assumption | ((with_reducible refine Gw.set ?_ ?_ _); rotate_left; (focus (first | (simp; done) | (simp; omega) | omega))) | with_reducible refine Gw.alloc ?_ _ | with_reducible refine Gw.drew ?_ | with_reducible refine Gw.drewN ?_ _ | (refine Gw.trans ?_ (by with_reducible assumption))))⟩
end Go.Proofs.YtgbgmmdpldekbaaDoor
