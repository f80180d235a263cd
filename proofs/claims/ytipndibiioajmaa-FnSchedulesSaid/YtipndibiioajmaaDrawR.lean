/-
  Draws of rehearsals.
-/
import Derived.Test.YtipndibiioajmaaWinE
import Derived.Test.YtipndibiioajmaaSetG
import Derived.Test.YtipndibiioajmaaEarlD
import Derived.Deep.DeepCutAuto
namespace Go.Proofs.Ytipndibiioajmaa
open Go.RowKit

abbrev R2 := Int × Int
abbrev TmR (x : R2) : Prop := Tm x.1 ∧ Tm x.2
set_option maxHeartbeats 8000000 in
set_option maxRecDepth 20000 in
theorem s_rehearsals {w0 w : World} {g m : Nat} (hC : CurP w0 w g m) (hm : m ≤ 100000000) :
    Calls Try.prog 74 #[.pointer (some ⟨g, 0, none⟩)] w fun e w' => ∃ (l : List R2) (A : Option Addr) (c : Nat), e = .returned (.slice A l.length c) ∧ (∀ x ∈ l, TmR x) ∧ l.length ≤ 7 ∧ w'.ownsRow w.heap.size 59 2 (.slice A l.length c) l.length (flat l) ∧ CurP w0 w' g (m + 200) ∧ w.grownBy w' (some g) := by
  obtain ⟨i0, hi, hz0, hz1, hz2⟩ := info_parts infoRehearsal
  have hlt := CurP.lt hC
  have hw0 := hC.gw.size
  go_enter Try.func74, Try.ntmps74
  go_wp2_with fail
  refine (c_pick (w0 := w0) hC (by omega) (by omega)).mono ?_
  rintro _ w1 ⟨n0, rfl, ⟨hn1, hn2, hn3⟩, hC1, hr1⟩
  have hn4 := hn3 (by omega)
  clear hn3
  go_wp2_with fail
  refine (s_one w0 w1 g (m + 2) 16 (by omega) (by omega) hC1).mono ?_
  rintro _ w2 ⟨b, rfl, hC2, hr2⟩
  have hgw2 : w.grownBy w2 (some g) := grownBy_trans hr1 hr2
  go_upto_if 9 with fail
  go_cut [4] (fun u wx => ∃ n : Nat, u = .int .i64 n ∧ n ≤ 7 ∧ Hid (CurP w0 wx g (m + 8) ∧ w.grownBy wx (some g)))
  case first =>
    cases b with
    | false =>
      go_wp2_with fail
      go_meet
      exact ⟨n0.toNat, by rw [show ((n0.toNat : Nat) : Int) = n0 by omega], by omega, ⟨hC2.mono (by omega), hgw2⟩⟩
    | true =>
      go_wp2_with fail
      refine (c_pick (w0 := w0) hC2 (by omega) (by omega)).mono ?_
      rintro _ w3 ⟨v, rfl, ⟨hv1, hv2, hv3⟩, hC3, hr3⟩
      have hv4 := hv3 (by omega)
      have wv : IntKind.i64.wrap (6 + v) = 6 + v := IntWalk.i64_in _ (by omega)
      go_wp2_with fail
      go_meet
      exact ⟨(6 + v).toNat, by rw [show (((6 + v).toNat : Nat) : Int) = 6 + v by omega], by omega, ⟨hC3.mono (by omega), grownBy_trans hgw2 hr3⟩⟩
  case rest =>
  obtain ⟨n, rfl, hn7, hcut⟩ := hcut
  clear hn1 hn2 hn4 hC1 hr1 hC2 hr2 hgw2
  go_wp2_with fail
  go_loopw [3] (fun o wr => ∃ (l : List R2) (D : Option Addr) (d : Nat), o = .slice D l.length d ∧ l.length ≤ n ∧ Hid (∀ x ∈ l, TmR x) ∧ wr.ownsRow w.heap.size 59 2 (.slice D l.length d) l.length (flat l) ∧ Hid (CurP w0 wr g (m + 8 + 8 * l.length) ∧ w.grownBy wr (some g))) (fun o _ => n - sliceLen o)
  case atStart => exact ⟨[], none, 0, rfl, by simp, all_nil, World.ownsRow_nil _ _ _ _, hcut⟩
  case round =>
    clear hcut
    obtain ⟨l, D, d, rfl, hl, hB, hown, hcur⟩ := hrel
    obtain ⟨wo, rfl⟩ : ∃ wo : World, wo = wr := ⟨_, rfl⟩
    obtain ⟨k, hk⟩ : ∃ k, Hid (l.length = k) := ⟨_, rfl⟩
    rw [hk.out] at hl hown hcur ⊢
    by_cases hlt2 : k < n
    · have hkz : (k : Int) < (n : Int) := by omega
      go_wp2_with fail
      refine (c_pick (w0 := w0) hcur.out.1 (by omega) (by omega)).mono ?_
      rintro _ w3 ⟨a, rfl, ⟨ha1, ha2, ha3⟩, hC3, hr3⟩
      have ha4 := ha3 (by omega)
      have wa : IntKind.i64.wrap (1 + a) = 1 + a := IntWalk.i64_in _ (by omega)
      have hgw3 : w.grownBy w3 (some g) := grownBy_trans hcur.out.2 hr3
      have hown3 := own_grow hown hr3 hlt
      have hs3 := hgw3.size
      clear ha3 hown
      go_wp2_with fail
      refine (c_among (w0 := w0) hC3 (by omega) (by simp [SmV]; try omega) (by first | rfl | simp) (by omega) (by omega) (by first | rfl | simp)).mono ?_
      rintro _ w4 ⟨s, rfl, ⟨hs1, hs2, hsm⟩, hC4, hr4⟩
      have hsb : Tm s := by
        simp at hsm
        omega
      have hgw4 : w.grownBy w4 (some g) := grownBy_trans (grow_alloc hgw3 _) hr4
      have hown4 := own_grow (hown3.alloc _) hr4 hlt
      have hs4 := hgw4.size
      have hB2 := Lib.hid (all_snoc (x := ((1 + a, s) : R2)) hB.out ⟨by dsimp only; omega, hsb⟩)
      clear hsm hown3
      go_wp2_with (at_builtin; go_loud (refine wpList_push2 (α := R2) rfl (.tmp 17) (.tmp 25) 31 rfl w.heap.size 59 i0 _ 16 Try.underlying31 hi hz0 hz1 hz2 rfl (by omega) l D d (by rw [hk.out]; rfl) w4 (1 + a, s) rfl w4.heap.size rfl rfl (by rw [hk.out]; exact hown4) (by rw [hk.out]; omega) hs4 ?_); intro acc' A' c'' w9 hacc' hl1 hl2 hown' hgr hblk _)
      rw [hk.out] at hl1 hl2
      go_roundw
      case rel => exact ⟨acc', A', c'', rfl, by omega, by unfold Hid; rw [hacc'.out]; exact hB2.out, hown', ⟨(cur_push hC4 hlt hw0 hgr (by rw [hk.out]; exact fun k hk => (hown4.lt k hk).1)).mono (by omega), grow_push hgw4 hgr (by rw [hk.out]; exact fun k hk => (hown4.lt k hk).1)⟩⟩
      case measure => simp only [sliceLen_mk]; have := hk.out; omega
    · obtain rfl : k = n := by omega
      clear hlt2 hl
      by_cases h0 : k = 0
      · subst h0
        go_wp2_with fail
        go_ret
        exact ⟨l, D, d, by rw [hk.out]; rfl, hB.out, by rw [hk.out]; omega, by rw [hk.out]; exact hown, hcur.out.1.mono (by omega), hcur.out.2⟩
      have hkz : (0 : Int) < (k : Int) := by omega
      obtain ⟨gg, hA, hg1, hg2⟩ := own_addr hown (by omega)
      subst hA
      have hgne : ¬(gg = g) := by omega
      have hggne : ¬(g = gg) := by omega
      go_wp2_with fail
      refine (c_pick (w0 := w0) hcur.out.1 (by omega) (by omega)).mono ?_
      rintro _ w3 ⟨i0', rfl, ⟨hi1, hi2, hi3⟩, hC3, hr3⟩
      have hi4 := hi3 (by omega)
      obtain ⟨i, rfl⟩ : ∃ i : Nat, i0' = i := ⟨i0'.toNat, by omega⟩
      have hlti : i < k := by omega
      obtain ⟨x, hx⟩ := get_of_lt (show i < l.length by rw [hk.out]; exact hlti)
      have Hx := Lib.hid hx
      have hxb := hB.out x (mem_of_get hx)
      have hgw3 : w.grownBy w3 (some g) := grownBy_trans hcur.out.2 hr3
      have hown3 := own_grow hown hr3 hlt
      clear hx hi3 hown
      go_wp2_with fail
      refine (c_pick (w0 := w0) hC3 (by omega) (by omega)).mono ?_
      rintro _ w4 ⟨v, rfl, ⟨hv1, hv2, -⟩, hC4, hr4⟩
      have hgw4 : w.grownBy w4 (some g) := grownBy_trans hgw3 hr4
      have hown4 := own_grow hown3 hr4 hlt
      have hlt4 := CurP.lt hC4
      obtain ⟨x1, x2⟩ := x
      have hxb : Tm x1 ∧ Tm x2 := hxb
      clear hown3
      by_cases v0 : v = 0
      · subst v0
        go_wp2_with fail
        refine (c_among (w0 := w0) hC4 (by omega) (by simp [SmV]; try omega) (by first | rfl | simp) (by omega) (by omega) (by first | rfl | simp)).mono ?_
        rintro _ w5 ⟨r, rfl, ⟨hr1', hr2', hrm⟩, hC5, hr5⟩
        have hrb : Tm r := by
          simp at hrm
          omega
        clear hrm
        have hgw5 : w.grownBy w5 (some g) := grownBy_trans hgw4 (grownBy_trans (gw_grow ((Gw.refl w4).alloc _) g) hr5)
        have hown5 := own_grow (hown4.alloc _) hr5 hlt
        have hce := own_cellsG (α := R2) hk.out hown5 Hx.out
        have e0 : w5.cell? ⟨gg, i * 2, none⟩ = some (.int .i64 x1) := hce 0 _ rfl
        have fz := World.ownsRow.frozenAt hown5 (i * 2)
        have hs : (w5.setCell ⟨gg, i * 2, none⟩ (.int .i64 r)).ownsRow w.heap.size 59 2 (.slice (some ⟨gg, 0, none⟩) k d) k (flat (l.set i (r, x2))) := (own_setG (α := R2) hown5 Hx.out 0 (r, x2) (.int .i64 r) (by decide) rfl).1
        have Hs := Lib.hid hs
        have hl2 : Hid ((l.set i (r, x2)).length = k) := by unfold Hid; rw [List.length_set, hk.out]
        have hCs := Lib.hid (CurP.set hC5 (p := ⟨gg, i * 2, none⟩) (by show w0.heap.size ≤ gg; omega) (by exact hgne) (.int .i64 r))
        have hgs := Lib.hid (grow_set hgw5 (p := ⟨gg, i * 2, none⟩) (by exact hg1) (.int .i64 r))
        clear hown4 hown5 hs hce
        go_wp2_with fail
        go_ret
        exact ⟨l.set i (r, x2), some ⟨gg, 0, none⟩, d, by rw [hl2.out]; rfl, all_set hB.out i ⟨hrb, hxb.2⟩, by rw [hl2.out]; omega, by rw [hl2.out]; exact Hs.out, hCs.out.mono (by omega), hgs.out⟩
      by_cases v1 : v = 1
      · subst v1
        go_wp2_with fail
        refine (c_among (w0 := w0) hC4 (by omega) (by simp [SmV]; try omega) (by first | rfl | simp) (by omega) (by omega) (by first | rfl | simp)).mono ?_
        rintro _ w5 ⟨r, rfl, ⟨hr1', hr2', hrm⟩, hC5, hr5⟩
        have hrb : Tm r := by
          simp at hrm
          omega
        clear hrm
        have hgw5 : w.grownBy w5 (some g) := grownBy_trans hgw4 (grownBy_trans (gw_grow ((Gw.refl w4).alloc _) g) hr5)
        have hown5 := own_grow (hown4.alloc _) hr5 hlt
        have hce := own_cellsG (α := R2) hk.out hown5 Hx.out
        have e0 : w5.cell? ⟨gg, i * 2 + 1, none⟩ = some (.int .i64 x2) := hce 1 _ rfl
        have fz := World.ownsRow.frozenAt hown5 (i * 2 + 1)
        have hs : (w5.setCell ⟨gg, i * 2 + 1, none⟩ (.int .i64 r)).ownsRow w.heap.size 59 2 (.slice (some ⟨gg, 0, none⟩) k d) k (flat (l.set i (x1, r))) := (own_setG (α := R2) hown5 Hx.out 1 (x1, r) (.int .i64 r) (by decide) rfl).1
        have Hs := Lib.hid hs
        have hl2 : Hid ((l.set i (x1, r)).length = k) := by unfold Hid; rw [List.length_set, hk.out]
        have hCs := Lib.hid (CurP.set hC5 (p := ⟨gg, i * 2 + 1, none⟩) (by show w0.heap.size ≤ gg; omega) (by exact hgne) (.int .i64 r))
        have hgs := Lib.hid (grow_set hgw5 (p := ⟨gg, i * 2 + 1, none⟩) (by exact hg1) (.int .i64 r))
        clear hown4 hown5 hs hce
        go_wp2_with fail
        go_ret
        exact ⟨l.set i (x1, r), some ⟨gg, 0, none⟩, d, by rw [hl2.out]; rfl, all_set hB.out i ⟨hxb.1, hrb⟩, by rw [hl2.out]; omega, by rw [hl2.out]; exact Hs.out, hCs.out.mono (by omega), hgs.out⟩
      have b0 : (v == 0) = false := by simp [v0]
      have b1 : (v == 1) = false := by simp [v1]
      go_wp2_with fail
      go_ret
      exact ⟨l, some ⟨gg, 0, none⟩, d, by rw [hk.out]; rfl, hB.out, by rw [hk.out]; omega, by rw [hk.out]; exact hown4, hC4.mono (by omega), hgw4⟩
end Go.Proofs.Ytipndibiioajmaa
