/-
  Draws of music.
-/
import Derived.Test.YthokcddabgojgaaEdD
import Derived.Test.YthokcddabgojgaaScal
import Derived.Test.YthokcddabgojgaaTyMeasure
import Derived.Test.YthokcddabgojgaaPush2
import Derived.Test.YthokcddabgojgaaTail
namespace Go.Proofs.Ythokcddabgojgaa
open Go.RowKit

set_option maxHeartbeats 16000000 in
set_option maxRecDepth 20000 in
theorem mu_tail {w0 w W : World} {g m m1 : Nat} {N : Int} {s1 s2 s5 s6 s7 s8 s9 s10 s11 s12 s13 s14 s15 s16 s17 s18 s19 s20 s21 s22 s23 s24 s25 s26 s27 s28 s29 s30 s31 s32 s33 s34 s35 s36 s37 : Value} (hC : CurP w0 W g m1) (hg : w.grownBy W (some g)) (hlt : g < w.heap.size) (hw0 : w0.heap.size ≤ w.heap.size) (hm1 : m1 ≤ m + 10) (hm : m ≤ 80000000) (hN : 1 ≤ N ∧ N ≤ 40) :
    Code.wp Try.prog (Code.tailOf 4 (Try.f72.body.getD .skip)) (bodyPost Try.prog Try.f72 (fun e w' => ∃ (l : List (Int × Int)) (A : Option Addr) (c n : Nat), e = .returned (.slice A n c) ∧ l.length = n ∧ (1 ≤ n ∧ n ≤ 40) ∧ w'.ownsRow w.heap.size 52 2 (.slice A n c) n (flat l) ∧ CurP w0 w' g (m + 600) ∧ w.grownBy w' (some g))) ⟨#[.pointer (some ⟨g, 0, none⟩), s1, s2, .slice none 0 0, .int .i64 N, s5, s6, s7, s8, s9, s10, s11, s12, s13, s14, s15, s16, s17, s18, s19, s20, s21, s22, s23, s24, s25, s26, s27, s28, s29, s30, s31, s32, s33, s34, s35, s36, s37], []⟩ W := by
  obtain ⟨i0, hi, iz0, iz1, iz2⟩ := info_parts infoMeasure
  conv => arg 2; whnf
  conv => arg 4; zeta
  go_wp2_with fail
  refine (c_pick (w0 := w0) hC (by omega) (by omega)).mono ?_
  rintro _ w1 ⟨v, rfl, ⟨hv1, hv2, hv3⟩, hC1, hr1⟩
  have hv4 := hv3 (by omega)
  have wv : IntKind.i64.wrap (40 + v) = 40 + v := IntWalk.i64_in _ (by omega)
  have hg1 := grownBy_trans hg hr1
  clear hv3 hC hg hr1
  go_wp2_with fail
  refine (c_among (w0 := w0) hC1 (by omega) (by simp [SmV]; try omega) (by first | rfl | simp) (by omega) (by omega) (by first | rfl | simp)).mono ?_
  rintro _ w2 ⟨t0, rfl, -, hC2, hr2⟩
  have hg2 := grownBy_trans (grow_alloc hg1 _) hr2
  clear hC1 hg1 hr2
  go_wp2_with fail
  go_loopw [3, 5] (fun o tv wr => ∃ (l : List (Int × Int)) (A : Option Addr) (c : Nat) (t : Int), o = .slice A l.length c ∧ tv = .int .i64 t ∧ l.length ≤ 40 ∧ wr.ownsRow w.heap.size 52 2 (.slice A l.length c) l.length (flat l) ∧ Hid (CurP w0 wr g (m + 20 + 10 * l.length) ∧ w.grownBy wr (some g))) (fun o _ _ => 41 - sliceLen o)
  case atStart => exact ⟨[], none, 0, t0, rfl, rfl, by simp, World.ownsRow_nil _ _ _ _, ⟨hC2.mono (by omega), hg2⟩⟩
  case round =>
    clear hC2 hg2
    obtain ⟨wo, rfl⟩ : ∃ wo : World, wo = wr := ⟨_, rfl⟩
    obtain ⟨l, A, c, t, rfl, rfl, hl, hown, hcur⟩ := hrel
    by_cases hlN : (l.length : Int) < N
    · go_wp2_with fail
      refine (s_one (w0 := w0) _ _ _ 4 (by omega) (by omega) hcur.out.1).mono ?_
      rintro _ w3 ⟨o, rfl, hC3, hr3⟩
      have hown3 := own_grow hown hr3 hlt
      have hg3 := grownBy_trans hcur.out.2 hr3
      clear hr3
      cases o with
      | true =>
        go_wp2_with fail
        refine (c_pick (w0 := w0) hC3 (by omega) (by omega)).mono ?_
        rintro _ w4 ⟨v', rfl, ⟨hu1, hu2, hu3⟩, hC4, hr4⟩
        have hu4 := hu3 (by omega)
        have wu : IntKind.i64.wrap (40 + v') = 40 + v' := IntWalk.i64_in _ (by omega)
        have hown4 := own_grow hown3 hr4 hlt
        have hg4 := grownBy_trans hg3 hr4
        clear hu3 hr4
        go_wp2_with fail
        refine (c_among (w0 := w0) hC4 (by omega) (by simp [SmV]; try omega) (by first | rfl | simp) (by omega) (by omega) (by first | rfl | simp)).mono ?_
        rintro _ w5 ⟨t', rfl, -, hC5, hr5⟩
        have hown5 := own_grow (hown4.alloc _) hr5 hlt
        have hg5 := grownBy_trans (grow_alloc hg4 _) hr5
        clear hr5
        go_wp2_with fail
        refine (c_among (w0 := w0) hC5 (by omega) (by simp [SmV]; try omega) (by first | rfl | simp) (by omega) (by omega) (by first | rfl | simp)).mono ?_
        rintro _ w6 ⟨q, rfl, -, hC6, hr6⟩
        have hown6 := own_grow (hown5.alloc _) hr6 hlt
        have hg6 := grownBy_trans (grow_alloc hg5 _) hr6
        have hs6 := hg6.size
        go_wp2_with (at_builtin; go_loud (refine wpList_push2 (α := (Int × Int)) rfl (.tmp 29) (.tmp 35) 32 rfl w.heap.size 52 i0 _ 16 Try.underlying32 hi iz0 iz1 iz2 rfl (by omega) l A c rfl w6 (q, t') rfl _ rfl rfl hown6 (by omega) (by omega) ?_); intro acc' A' c9 w9 hacc' hl1 hl2 hown' hgr hblk _)
        go_roundw
        case rel => exact ⟨acc', A', c9, t', rfl, rfl, by omega, hown', ⟨(cur_push hC6 hlt hw0 hgr (fun k hk => (hown6.lt k hk).1)).mono (by omega), grow_push hg6 hgr (fun k hk => (hown6.lt k hk).1)⟩⟩
        case measure => simp [sliceLen]; omega
      | false =>
        go_wp2_with fail
        refine (c_among (w0 := w0) hC3 (by omega) (by simp [SmV]; try omega) (by first | rfl | simp) (by omega) (by omega) (by first | rfl | simp)).mono ?_
        rintro _ w6 ⟨q, rfl, -, hC6, hr6⟩
        have hown6 := own_grow (hown3.alloc _) hr6 hlt
        have hg6 := grownBy_trans (grow_alloc hg3 _) hr6
        have hs6 := hg6.size
        go_wp2_with (at_builtin; go_loud (refine wpList_push2 (α := (Int × Int)) rfl (.tmp 29) (.tmp 35) 32 rfl w.heap.size 52 i0 _ 16 Try.underlying32 hi iz0 iz1 iz2 rfl (by omega) l A c rfl w6 (q, t) rfl _ rfl rfl hown6 (by omega) (by omega) ?_); intro acc' A' c9 w9 hacc' hl1 hl2 hown' hgr hblk _)
        go_roundw
        case rel => exact ⟨acc', A', c9, t, rfl, rfl, by omega, hown', ⟨(cur_push hC6 hlt hw0 hgr (fun k hk => (hown6.lt k hk).1)).mono (by omega), grow_push hg6 hgr (fun k hk => (hown6.lt k hk).1)⟩⟩
        case measure => simp [sliceLen]; omega
    · have hl1 : 1 ≤ l.length := by omega
      go_wp2_with fail
      go_ret
      exact ⟨l, A, c, l.length, rfl, rfl, ⟨hl1, hl⟩, hown, hcur.out.1.mono (by omega), hcur.out.2⟩

set_option maxHeartbeats 16000000 in
set_option maxRecDepth 20000 in
theorem s_music {w0 w : World} {g m : Nat} (hC : CurP w0 w g m) (hm : m ≤ 80000000) :
    Calls Try.prog 72 #[.pointer (some ⟨g, 0, none⟩)] w fun e w' => ∃ (l : List (Int × Int)) (A : Option Addr) (c n : Nat), e = .returned (.slice A n c) ∧ l.length = n ∧ (1 ≤ n ∧ n ≤ 40) ∧ w'.ownsRow w.heap.size 52 2 (.slice A n c) n (flat l) ∧ CurP w0 w' g (m + 600) ∧ w.grownBy w' (some g) := by
  have hlt := CurP.lt hC
  have hw0 := hC.gw.size
  go_enter Try.func72, Try.ntmps72
  go_wp2_with fail
  refine (c_pick (w0 := w0) hC (by omega) (by omega)).mono ?_
  rintro _ w1 ⟨v, rfl, ⟨hv1, hv2, hv3⟩, hC1, hr1⟩
  have hv4 := hv3 (by omega)
  have wv : IntKind.i64.wrap (1 + v) = 1 + v := IntWalk.i64_in _ (by omega)
  clear hv3
  go_wp2_with fail
  refine (s_one (w0 := w0) _ _ _ 16 (by omega) (by omega) hC1).mono ?_
  rintro _ w2 ⟨o, rfl, hC2, hr2⟩
  have hg2 := grownBy_trans hr1 hr2
  cases o with
  | false =>
    dsimp only
    repeat (first | (go_at_K; go_step; exact mu_tail hC2 hg2 hlt hw0 (by omega) hm (by omega)) | go_step)
  | true =>
    dsimp only
    repeat (first | (go_at_K; go_step; exact mu_tail hC2 hg2 hlt hw0 (by omega) hm (by omega)) | go_step)

set_option maxHeartbeats 16000000 in
set_option maxRecDepth 20000 in
theorem s_anyMusic {w0 w : World} {g m : Nat} (hC : CurP w0 w g m) (hm : m ≤ 70000000) :
    Calls Try.prog 39 #[.pointer (some ⟨g, 0, none⟩)] w fun e w' => ∃ (l : List (Int × Int)) (A : Option Addr) (c n : Nat), e = .returned (.slice A n c) ∧ l.length = n ∧ n ≤ 41 ∧ w'.ownsRow w.heap.size 52 2 (.slice A n c) n (flat l) ∧ CurP w0 w' g (m + 700) ∧ w.grownBy w' (some g) := by
  obtain ⟨i0, hi, iz0, iz1, iz2⟩ := info_parts infoMeasure
  have hlt := CurP.lt hC
  have hw0 := hC.gw.size
  go_enter Try.func39, Try.ntmps39
  go_wp2_with fail
  refine (s_music (w0 := w0) hC (by omega)).mono ?_
  rintro _ w1 ⟨l, A, c, n, rfl, hk, ⟨hn1, hn2⟩, hown, hC1, hr1⟩
  have hk := Lib.hid hk
  obtain ⟨gg, hA, hg1, hg2⟩ := own_addr hown (by omega)
  subst hA
  have hgne : ¬(gg = g) := by omega
  go_wp2_with fail
  refine (c_pick (w0 := w0) hC1 (by omega) (by omega)).mono ?_
  rintro _ w2 ⟨i0', rfl, ⟨hi1, hi2, hi3⟩, hC2, hr2⟩
  have hi4 := hi3 (by omega)
  obtain ⟨i, rfl⟩ : ∃ i : Nat, i0' = i := ⟨i0'.toNat, by omega⟩
  have hlti : i < n := by omega
  obtain ⟨x, hx⟩ := get_of_lt (show i < l.length by rw [hk.out]; exact hlti)
  have Hx := Lib.hid hx
  have hown2 := own_grow hown hr2 hlt
  have hgw2 := grownBy_trans hr1 hr2
  clear hx hi3 hown
  go_wp2_with fail
  refine (c_pick (w0 := w0) hC2 (by omega) (by omega)).mono ?_
  rintro _ w3 ⟨v, rfl, ⟨hv1, hv2, -⟩, hC3, hr3⟩
  have hgw3 : w.grownBy w3 (some g) := grownBy_trans hgw2 hr3
  have hown3 := own_grow hown2 hr3 hlt
  have hgs3 := hgw3.size
  obtain ⟨x1, x2⟩ := x
  clear hown2
  by_cases v0 : v = 0
  · subst v0
    have hce := own_cellsG (α := Int × Int) hk.out hown3 Hx.out
    go_wp2_with fail
    refine (c_among (w0 := w0) hC3 (by omega) (by simp [SmV]; try omega) (by first | rfl | simp) (by omega) (by omega) (by first | rfl | simp)).mono ?_
    rintro _ w4 ⟨q, rfl, -, hC4, hr4⟩
    have hown4 := own_grow (hown3.alloc _) hr4 hlt
    have hgw4 := grownBy_trans (grow_alloc hgw3 _) hr4
    have e0 : w3.cell? ⟨gg, i * 2, none⟩ = some (.int .i64 x1) := hce 0 _ rfl
    have e1 : w3.cell? ⟨gg, i * 2 + 1, none⟩ = some (.int .i64 x2) := hce 1 _ rfl
    have f0 := World.ownsRow.frozenAt hown4 (i * 2)
    have e4 : w4.cell? ⟨gg, i * 2, none⟩ = some (.int .i64 x1) := (own_cellsG (α := Int × Int) hk.out hown4 Hx.out) 0 _ rfl
    have Hs := Lib.hid (own_setG (α := Int × Int) hown4 Hx.out 0 (q, x2) (.int .i64 q) (by decide) rfl).1
    have hl2 : Hid ((l.set i (q, x2)).length = n) := by unfold Hid; rw [List.length_set, hk.out]
    have hCs := Lib.hid (CurP.set hC4 (p := ⟨gg, i * 2, none⟩) (by show w0.heap.size ≤ gg; omega) (by exact hgne) (.int .i64 q))
    have hgs := Lib.hid (grow_set hgw4 (p := ⟨gg, i * 2, none⟩) (by exact hg1) (.int .i64 q))
    clear hce
    go_wp2_with fail
    go_ret
    exact ⟨l.set i (q, x2), some ⟨gg, 0, none⟩, c, n, rfl, hl2.out, by omega, Hs.out, hCs.out.mono (by omega), hgs.out⟩
  by_cases v1 : v = 1
  · subst v1
    have hce := own_cellsG (α := Int × Int) hk.out hown3 Hx.out
    go_wp2_with fail
    refine (c_among (w0 := w0) hC3 (by omega) (by simp [SmV]; try omega) (by first | rfl | simp) (by omega) (by omega) (by first | rfl | simp)).mono ?_
    rintro _ w4 ⟨q, rfl, -, hC4, hr4⟩
    have hown4 := own_grow (hown3.alloc _) hr4 hlt
    have hgw4 := grownBy_trans (grow_alloc hgw3 _) hr4
    have e0 : w3.cell? ⟨gg, i * 2, none⟩ = some (.int .i64 x1) := hce 0 _ rfl
    have e1 : w3.cell? ⟨gg, i * 2 + 1, none⟩ = some (.int .i64 x2) := hce 1 _ rfl
    have f0 := World.ownsRow.frozenAt hown4 (i * 2 + 1)
    have e4 : w4.cell? ⟨gg, i * 2 + 1, none⟩ = some (.int .i64 x2) := (own_cellsG (α := Int × Int) hk.out hown4 Hx.out) 1 _ rfl
    have Hs := Lib.hid (own_setG (α := Int × Int) hown4 Hx.out 1 (x1, q) (.int .i64 q) (by decide) rfl).1
    have hl2 : Hid ((l.set i (x1, q)).length = n) := by unfold Hid; rw [List.length_set, hk.out]
    have hCs := Lib.hid (CurP.set hC4 (p := ⟨gg, i * 2 + 1, none⟩) (by show w0.heap.size ≤ gg; omega) (by exact hgne) (.int .i64 q))
    have hgs := Lib.hid (grow_set hgw4 (p := ⟨gg, i * 2 + 1, none⟩) (by exact hg1) (.int .i64 q))
    clear hce
    go_wp2_with fail
    go_ret
    exact ⟨l.set i (x1, q), some ⟨gg, 0, none⟩, c, n, rfl, hl2.out, by omega, Hs.out, hCs.out.mono (by omega), hgs.out⟩
  have b0 : (v == 0) = false := by simp [v0]
  have b1 : (v == 1) = false := by simp [v1]
  by_cases v2 : v = 2
  · subst v2
    go_wp2_with fail
    refine (c_pick (w0 := w0) hC3 (by omega) (by omega)).mono ?_
    rintro _ w4 ⟨q, rfl, ⟨hq1, hq2, hq3⟩, hC4, hr4⟩
    have hq4 := hq3 (by omega)
    have wq : IntKind.i64.wrap (40 + q) = 40 + q := IntWalk.i64_in _ (by omega)
    have hown4 := own_grow hown3 hr4 hlt
    have hgw4 := grownBy_trans hgw3 hr4
    have hkn := hk.out
    clear hq3
    go_wp2_with fail
    go_loopw [3] (fun o wr => ∃ (l : List (Int × Int)) (A : Option Addr) (c : Nat), o = .slice A l.length c ∧ l.length ≤ 41 ∧ wr.ownsRow w.heap.size 52 2 (.slice A l.length c) l.length (flat l) ∧ Hid (CurP w0 wr g (m + 650) ∧ w.grownBy wr (some g))) (fun o _ => 42 - sliceLen o)
    case atStart => exact ⟨l, some ⟨gg, 0, none⟩, c, by rw [hk.out], by omega, by rw [hk.out]; exact hown4, ⟨hC4.mono (by omega), hgw4⟩⟩
    case round =>
      clear hown4 hC4 hgw4 hown3 hC3 hgw3
      obtain ⟨wo, rfl⟩ : ∃ wo : World, wo = wr := ⟨_, rfl⟩
      obtain ⟨l, A, c, rfl, hl, hown, hcur⟩ := hrel
      have hwz := hcur.out.2.size
      by_cases hlN : (l.length : Int) < 40 + q
      · go_wp2_with (at_builtin; go_loud (refine wpList_push2 (α := (Int × Int)) rfl (.tmp 41) (.tmp 43) 32 rfl w.heap.size 52 i0 _ 16 Try.underlying32 hi iz0 iz1 iz2 rfl (by omega) l A c rfl wo (4, 120) rfl _ rfl rfl hown (by omega) (by omega) ?_); intro acc' A' c9 w9 hacc' hl1 hl2 hown' hgr hblk _)
        go_roundw
        case rel => exact ⟨acc', A', c9, rfl, by omega, hown', ⟨cur_push hcur.out.1 hlt hw0 hgr (fun k hk => (hown.lt k hk).1), grow_push hcur.out.2 hgr (fun k hk => (hown.lt k hk).1)⟩⟩
        case measure => simp [sliceLen]; omega
      · go_wp2_with fail
        go_ret
        exact ⟨l, A, c, l.length, rfl, rfl, hl, hown, hcur.out.1.mono (by omega), hcur.out.2⟩
  have b2 : (v == 2) = false := by simp [v2]
  by_cases v3 : v = 3
  · subst v3
    go_wp2_with fail
    go_ret
    exact ⟨[], none, 0, 0, rfl, rfl, by omega, World.ownsRow_nil _ _ _ _, hC3.mono (by omega), hgw3⟩
  have b3 : (v == 3) = false := by simp [v3]
  go_wp2_with fail
  go_ret
  exact ⟨l, some ⟨gg, 0, none⟩, c, n, rfl, hk.out, by omega, hown3, hC3.mono (by omega), hgw3⟩
end Go.Proofs.Ythokcddabgojgaa
