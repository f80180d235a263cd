/-
  Draws of the law of speeds: moves with music.
-/
import Derived.Test.YthokcddabgojgaaSpH
namespace Go.Proofs.Ythokcddabgojgaa
open Go.RowKit

set_option maxHeartbeats 16000000 in
set_option maxRecDepth 20000 in
theorem d_MovesTooFast (A : Option Addr) (cc : Nat) (bs : List UInt8) (w : World) (hl : bs.length ≤ 9223372036854775807) (hr : Rd w A bs) :
    Calls Try.prog 7 #[.slice A bs.length cc] w fun e w' => ∃ (l : List M5) (B : Option Addr) (c : Nat) (mu : List (Int × Int)) (M : Option Addr) (cm : Nat) (f lim : Int), e = .returned (.tuple #[.slice B l.length c, .slice M mu.length cm, .int .i64 f, .int .i64 lim]) ∧ l.length ≤ 13 ∧ mu.length ≤ 41 ∧ w'.ownsRow w.heap.size 39 5 (.slice B l.length c) l.length (flat l) ∧ w'.ownsRow w.heap.size 52 2 (.slice M mu.length cm) mu.length (flat mu) ∧ Gw w w' := by
  have hC0 := CurP.new (c := cc) hr hl (Gw.refl w)
  go_enter Try.func7, Try.ntmps7
  go_wp2_with fail
  refine (s_movesTogether (w0 := w) hC0 (by omega)).mono ?_
  rintro _ w1 ⟨l, B, c, n, rfl, rfl, hn, hB, hown, hC1, hr1⟩
  simp at hown
  have hz1 := hr1.size; (try simp at hz1)
  have HB := Lib.hid hB
  clear hr1 hC0 hB
  go_wp2_with fail
  refine (s_anyMusic (w0 := w) hC1 (by omega)).mono ?_
  rintro _ w2 ⟨mu, M, cm, k, rfl, rfl, hk, hownM, hC2, hr2⟩
  have hown2 := own_grow hown hr2 (by omega)
  have hz2 := hr2.size
  have hownM := own_lower hownM (show w.heap.size + 1 ≤ w1.heap.size by omega)
  clear hr2 hown hC1
  go_wp2_with fail
  refine (s_muGood _ _ _ _ (by omega) (own_rd hownM)).mono ?_
  rintro _ w3 (⟨hp, rfl, hb3⟩ | ⟨hp, rfl, hb3⟩)
  case inr =>
    have hC3 := hC2.to hb3
    have hown3 := own_gw hown2 hb3
    have hownM3 := own_gw hownM hb3
    clear hp
    go_wp2_with fail
    refine (s_speedLimit (w0 := w) hC3 (by omega)).mono ?_
    rintro _ w4 ⟨lim, rfl, -, hC4, hr4⟩
    go_wp2_with fail
    exact bodyPost_ret (v := .tuple #[.slice B l.length c, .slice M mu.length cm, .int .i64 0, .int .i64 lim]) (by simp [results, Try.results7, go_sem]) rfl ⟨l, B, c, mu, M, cm, 0, lim, rfl, hn, hk, own_lower (own_grow hown3 hr4 (by omega)) (by omega), own_lower (own_grow hownM3 hr4 (by omega)) (by omega), hC4.gw⟩
  have hC3 := hC2.to hb3
  have hown3 := own_gw hown2 hb3
  have hownM3 := own_gw hownM hb3
  have HP := Lib.hid hp
  clear hp hC2 hown2 hownM
  by_cases hl0 : l.length = 0
  · obtain rfl : l = [] := List.eq_nil_of_length_eq_zero hl0
    clear hl0
    simp only [List.length_nil] at hown3 hn ⊢
    go_wp2_with fail
    refine (s_speedLimit (w0 := w) hC3 (by omega)).mono ?_
    rintro _ w4 ⟨lim, rfl, -, hC4, hr4⟩
    go_wp2_with fail
    exact bodyPost_ret (v := .tuple #[.slice B 0 c, .slice M mu.length cm, .int .i64 0, .int .i64 lim]) (by simp [results, Try.results7, go_sem]) rfl ⟨[], B, c, mu, M, cm, 0, lim, rfl, by simp, hk, own_lower (own_grow hown3 hr4 (by omega)) (by omega), own_lower (own_grow hownM3 hr4 (by omega)) (by omega), hC4.gw⟩
  · have hd : decide ((0 : Int) < (l.length : Int)) = true := decide_eq_true (by omega)
    have hd0 : (0 : Int) < (l.length : Int) := by omega
    obtain ⟨x, hx⟩ := get_of_lt (show 0 < l.length by omega)
    obtain ⟨gg, rfl, hg1, hg2⟩ := own_addr hown3 (by omega)
    have hcx := own_cellsG (α := M5) rfl hown3 hx
    have hbx : MvX x := HB.out x (mem_of_get hx)
    obtain ⟨x1, x2, x3, x4, x5⟩ := x
    have hbx : MvC x1 x2 x3 x4 x5 := hbx
    have e4 : w3.cell? ⟨gg, 4, none⟩ = some (.int .i64 x5) := by simpa using hcx 4 _ rfl
    have hx5 := hbx.2.2
    have hgg : ¬gg = w.heap.size := by omega
    have hsb := sumC_bd mu HP.out.1
    have h40 := HP.out.2.2
    have wS : IntKind.i64.wrap (sumC mu - x5) = sumC mu - x5 := IntWalk.i64_in _ (by omega)
    have wT : IntKind.i64.wrap (sumC mu - x5 + 2) = sumC mu - x5 + 2 := IntWalk.i64_in _ (by omega)
    have hC30 := Lib.hid (hC3.to (Gw.refl w3).drew)
    have hG30 := Lib.hid (gw_grow (Gw.refl w3).drew w.heap.size)
    have HOM := Lib.hid (own_rd hownM3)
    clear hl0 hcx hx hbx
    go_upto_region 6 with fail
    go_region_held3 (fun u => u.cell? ⟨gg, 4, none⟩ = some (.int .i64 x5)) (first | with_reducible assumption | go_keep)
      (first
        | (have K := hC30.out; go_at_call 43; refine (s_muCounts _ _ mu _ (by omega) HP.out.1 (HOM.out.gw (Gw.refl w3).drew)).mono ?_; rintro _ wa ⟨rfl, hba⟩; have hCa := Lib.hid (K.to hba); have hGa := Lib.hid (grownBy_trans hG30.out (gw_grow hba w.heap.size)); clear K hC30 hG30; have kS : wa.cell? ⟨gg, 4, none⟩ = some (.int .i64 x5) := (grow_cells hGa.out gg 4 hg2 hgg).trans e4)
        | (have K := hCa.out; go_at_call 42; refine (s_l1Most _ _ _).mono ?_; rintro _ wb ⟨rfl, rfl⟩)
        | (have K := hCa.out; go_at_call 41; refine (c_pick (w0 := w) K (by omega) (by omega)).mono ?_; rintro _ wc ⟨p, rfl, ⟨hp1, hp2, -⟩, hCc, hrc⟩; have hGc := Lib.hid (grownBy_trans hGa.out hrc); have hCc := Lib.hid hCc; clear K hCa hGa kS hrc; have kS : wc.cell? ⟨gg, 4, none⟩ = some (.int .i64 x5) := (grow_cells hGc.out gg 4 hg2 hgg).trans e4)
        | (have K := hCc.out; go_at_call 41; refine (c_pick (w0 := w) K (by omega) (by omega)).mono ?_; rintro _ wd ⟨p', rfl, ⟨hp1', hp2', -⟩, hCd, hrd⟩; have hGd := Lib.hid (grownBy_trans hGc.out hrd); have hCd := Lib.hid hCd; clear K hCc hGc kS hrd; have ht : p'.tdiv 23 = p' / 23 := Int.tdiv_eq_ediv_of_nonneg hp1'; have hw1 : IntKind.i64.wrap (p'.tdiv 23) = p' / 23 := (by rw [ht]; exact IntWalk.i64_in _ (by omega)); have hw2 : IntKind.i64.wrap (p' / 23) = p' / 23 := IntWalk.i64_in _ (by omega); have hw3 : IntKind.i64.wrap (p - p' / 23) = p - p' / 23 := IntWalk.i64_in _ (by omega); have kS : wd.cell? ⟨gg, 4, none⟩ = some (.int .i64 x5) := (grow_cells hGd.out gg 4 hg2 hgg).trans e4)
        | fail)
    all_goals
      go_wp2_with fail
      refine (s_speedLimit (w0 := w) hCd.out (by omega)).mono ?_
      rintro _ w4 ⟨lim, rfl, -, hC4, hr4⟩
      have hg9 := grownBy_trans hGd.out hr4
      go_wp2_with fail
      exact bodyPost_ret (v := .tuple #[.slice (some ⟨gg, 0, none⟩) l.length c, .slice M mu.length cm, .int .i64 (p - p' / 23), .int .i64 lim]) (by simp [results, Try.results7, go_sem]) rfl ⟨l, some ⟨gg, 0, none⟩, c, mu, M, cm, p - p' / 23, lim, rfl, hn, hk, own_lower (own_grow hown3 hg9 (by omega)) (by omega), own_lower (own_grow hownM3 hg9 (by omega)) (by omega), hC4.gw⟩
end Go.Proofs.Ythokcddabgojgaa
