/-
  Draws of windows, mostly valid ones.
-/
import Derived.Test.YtipndibiioajmaaWinD
import Derived.Test.YtipndibiioajmaaSetW
namespace Go.Proofs.Ytipndibiioajmaa
open Go.RowKit

theorem WinB.set {l : List W3} (h : WinB l) (k : Nat) {x : W3} (h1 : Tm x.1) (h2 : Tm x.2.1) (h3 : Tm x.2.2) : WinB (l.set k x) := by
  intro y hy
  rcases List.mem_or_eq_of_mem_set hy with hy | rfl
  · exact h y hy
  · exact ⟨h1, h2, h3⟩
theorem flat_setA (l : List W3) (k : Nat) (x : W3) (v : Int) (hx : l[k]? = some x) : (flat l).set (k * 3) (.int .i64 v) = flat (l.set k (v, x.2.1, x.2.2)) := by
  induction l generalizing k with
  | nil => simp at hx
  | cons y l ih =>
    have hf : ∀ (y : W3) (l : List W3), flat (y :: l) = .int .i64 y.1 :: .int .i64 y.2.1 :: .int .i64 y.2.2 :: flat l := fun y l => by simp [flat, Flat.cells]
    cases k with
    | zero =>
      simp only [List.getElem?_cons_zero, Option.some.injEq] at hx
      subst hx
      simp [hf]
    | succ k =>
      rw [hf, show (k + 1) * 3 = k * 3 + 1 + 1 + 1 by omega]
      simp only [List.set_cons_succ]
      rw [ih k (by simpa using hx), hf]
theorem flat_setB (l : List W3) (k : Nat) (x : W3) (v : Int) (hx : l[k]? = some x) : (flat l).set (k * 3 + 1) (.int .i64 v) = flat (l.set k (x.1, v, x.2.2)) := by
  induction l generalizing k with
  | nil => simp at hx
  | cons y l ih =>
    have hf : ∀ (y : W3) (l : List W3), flat (y :: l) = .int .i64 y.1 :: .int .i64 y.2.1 :: .int .i64 y.2.2 :: flat l := fun y l => by simp [flat, Flat.cells]
    cases k with
    | zero =>
      simp only [List.getElem?_cons_zero, Option.some.injEq] at hx
      subst hx
      simp [hf]
    | succ k =>
      rw [hf, show (k + 1) * 3 + 1 = k * 3 + 1 + 1 + 1 + 1 by omega]
      simp only [List.set_cons_succ]
      rw [ih k (by simpa using hx), hf]
theorem own_setA {w : World} {base : Nat} {e : TypeId} {n c g k : Nat} {l : List W3} {x : W3} (h : w.ownsRow base e 3 (.slice (some ⟨g, 0, none⟩) n c) n (flat l)) (hx : l[k]? = some x) (v : Int) :
    (w.setCell ⟨g, k * 3, none⟩ (.int .i64 v)).ownsRow base e 3 (.slice (some ⟨g, 0, none⟩) n c) n (flat (l.set k (v, x.2.1, x.2.2))) := by
  have h1 := World.ownsRow.stored h (k * 3) (.int .i64 v)
  rw [flat_setA l k x v hx] at h1
  exact h1.1
theorem own_setB {w : World} {base : Nat} {e : TypeId} {n c g k : Nat} {l : List W3} {x : W3} (h : w.ownsRow base e 3 (.slice (some ⟨g, 0, none⟩) n c) n (flat l)) (hx : l[k]? = some x) (v : Int) :
    (w.setCell ⟨g, k * 3 + 1, none⟩ (.int .i64 v)).ownsRow base e 3 (.slice (some ⟨g, 0, none⟩) n c) n (flat (l.set k (x.1, v, x.2.2))) := by
  have h1 := World.ownsRow.stored h (k * 3 + 1) (.int .i64 v)
  rw [flat_setB l k x v hx] at h1
  exact h1.1

set_option maxHeartbeats 8000000 in
set_option maxRecDepth 20000 in
theorem s_anyWindows {w0 w : World} {g m : Nat} (hC : CurP w0 w g m) (hm : m ≤ 100000000) :
    Calls Try.prog 73 #[.pointer (some ⟨g, 0, none⟩)] w fun e w' => ∃ (l : List W3) (A : Option Addr) (c : Nat), e = .returned (.slice A l.length c) ∧ WinB l ∧ l.length ≤ 30 ∧ w'.ownsRow w.heap.size 71 3 (.slice A l.length c) l.length (flat l) ∧ CurP w0 w' g (m + 2000) ∧ w.grownBy w' (some g) := by
  obtain ⟨i0, hi, hz0, hz1, hz2⟩ := info_parts infoWindow
  have hlt := CurP.lt hC
  have hw0 := hC.gw.size
  go_enter Try.func73, Try.ntmps73
  go_wp2_with fail
  refine (s_windows hC (by omega)).mono ?_
  rintro _ w1 ⟨l, A, c, rfl, hT, hl, hown, hC1, hr1⟩
  have hB := hT.bd
  clear hT
  obtain ⟨n, hn⟩ : ∃ n, Hid (l.length = n) := ⟨_, rfl⟩
  rw [hn.out] at hl hown
  rw [hn.out]
  have HB := Lib.hid hB
  clear hB
  by_cases h0 : n = 0
  · subst h0
    go_wp2_with fail
    go_ret
    exact ⟨l, A, c, by rw [hn.out]; rfl, HB.out, by rw [hn.out]; omega, by rw [hn.out]; exact hown, hC1.mono (by omega), hr1⟩
  have hnz : (0 : Int) < (n : Int) := by omega
  obtain ⟨gg, hA, hg1, hg2⟩ := own_addr hown (by omega)
  subst hA
  have hgne : ¬(gg = g) := by omega
  have hggne : ¬(g = gg) := by omega
  go_wp2_with fail
  refine (c_pick (w0 := w0) hC1 (by omega) (by omega)).mono ?_
  rintro _ w2 ⟨i0', rfl, ⟨hi1, hi2, hi3⟩, hC2, hr2⟩
  have hi4 := hi3 (by omega)
  obtain ⟨i, rfl⟩ : ∃ i : Nat, i0' = i := ⟨i0'.toNat, by omega⟩
  have hlti : i < n := by omega
  obtain ⟨x, hx⟩ := get_of_lt (show i < l.length by rw [hn.out]; exact hlti)
  have Hx := Lib.hid hx
  have hxb := HB.out x (mem_of_get hx)
  have hgw2 : w.grownBy w2 (some g) := grownBy_trans hr1 hr2
  have hown2 := own_grow hown hr2 hlt
  clear hx hi3 hown
  go_wp2_with fail
  refine (c_pick (w0 := w0) hC2 (by omega) (by omega)).mono ?_
  rintro _ w3 ⟨v, rfl, ⟨hv1, hv2, -⟩, hC3, hr3⟩
  have hgw3 : w.grownBy w3 (some g) := grownBy_trans hgw2 hr3
  have hown3 := own_grow hown2 hr3 hlt
  have hlt3 := CurP.lt hC3
  obtain ⟨x1, x2, x3⟩ := x
  dsimp only at hxb
  clear hown2
  by_cases v0 : v = 0
  · subst v0
    go_wp2_with fail
    refine (c_among (w0 := w0) hC3 (by omega) (by simp [SmV]; try omega) (by first | rfl | simp) (by omega) (by omega) (by first | rfl | simp)).mono ?_
    rintro _ w4 ⟨r, rfl, ⟨hr1', hr2', hrm⟩, hC4, hr4⟩
    have hrb : Tm r := by
      simp at hrm
      omega
    clear hrm
    have hgw4 : w.grownBy w4 (some g) := grownBy_trans hgw3 (grownBy_trans (gw_grow ((Gw.refl w3).alloc _) g) hr4)
    have hown4 := own_grow (hown3.alloc _) hr4 hlt
    obtain ⟨e0, e1, e2⟩ := own_cellsW hn.out hown4 Hx.out
    have fz := World.ownsRow.frozenAt hown4 (i * 3)
    dsimp only at e0 e1 e2
    have hs := Lib.hid (own_setA hown4 Hx.out r)
    have hl2 : Hid ((l.set i (r, x2, x3)).length = n) := by unfold Hid; rw [List.length_set, hn.out]
    have hCs := Lib.hid (CurP.set hC4 (p := ⟨gg, i * 3, none⟩) (by show w0.heap.size ≤ gg; omega) (by exact hgne) (.int .i64 r))
    have hgs := Lib.hid (grow_set hgw4 (p := ⟨gg, i * 3, none⟩) (by exact hg1) (.int .i64 r))
    clear hown3 hown4
    go_wp2_with fail
    go_ret
    exact ⟨l.set i (r, x2, x3), some ⟨gg, 0, none⟩, c, by rw [hl2.out]; rfl, HB.out.set i (by exact hrb) (by exact hxb.2.1) (by exact hxb.2.2), by rw [hl2.out]; omega, by rw [hl2.out]; exact hs.out, hCs.out.mono (by omega), hgs.out⟩
  by_cases v1 : v = 1
  · subst v1
    obtain ⟨e0, e1, e2⟩ := own_cellsW hn.out hown3 Hx.out
    dsimp only at e0 e1 e2
    go_wp2_with fail
    refine (c_among (w0 := w0) hC3 (by omega) (by simp [SmV]; omega) (by first | rfl | simp) (by omega) (by omega) (by first | rfl | simp)).mono ?_
    rintro _ w4 ⟨r, rfl, ⟨hr1', hr2', hrm⟩, hC4, hr4⟩
    have hrb : Tm r := by
      simp at hrm
      omega
    clear hrm e0 e1 e2
    have hgw4 : w.grownBy w4 (some g) := grownBy_trans hgw3 (grownBy_trans (gw_grow ((Gw.refl w3).alloc _) g) hr4)
    have hown4 := own_grow (hown3.alloc _) hr4 hlt
    obtain ⟨e0, e1, e2⟩ := own_cellsW hn.out hown4 Hx.out
    have fz := World.ownsRow.frozenAt hown4 (i * 3 + 1)
    dsimp only at e0 e1 e2
    have hs := Lib.hid (own_setB hown4 Hx.out r)
    have hl2 : Hid ((l.set i (x1, r, x3)).length = n) := by unfold Hid; rw [List.length_set, hn.out]
    have hCs := Lib.hid (CurP.set hC4 (p := ⟨gg, i * 3 + 1, none⟩) (by show w0.heap.size ≤ gg; omega) (by exact hgne) (.int .i64 r))
    have hgs := Lib.hid (grow_set hgw4 (p := ⟨gg, i * 3 + 1, none⟩) (by exact hg1) (.int .i64 r))
    clear hown3 hown4
    go_wp2_with fail
    go_ret
    exact ⟨l.set i (x1, r, x3), some ⟨gg, 0, none⟩, c, by rw [hl2.out]; rfl, HB.out.set i (by exact hxb.1) (by exact hrb) (by exact hxb.2.2), by rw [hl2.out]; omega, by rw [hl2.out]; exact hs.out, hCs.out.mono (by omega), hgs.out⟩
  by_cases v2 : v = 2
  · subst v2
    obtain ⟨e0, e1, e2⟩ := own_cellsW hn.out hown3 Hx.out
    dsimp only at e0 e1 e2
    go_wp2_with fail
    refine (c_among (w0 := w0) hC3 (by omega) (by simp [SmV]; omega) (by first | rfl | simp) (by omega) (by omega) (by first | rfl | simp)).mono ?_
    rintro _ w4 ⟨r, rfl, ⟨hr1', hr2', hrm⟩, hC4, hr4⟩
    have hrb : Tm r := by
      simp at hrm
      omega
    clear hrm e0 e1 e2
    have hgw4 : w.grownBy w4 (some g) := grownBy_trans hgw3 (grownBy_trans (gw_grow ((Gw.refl w3).alloc _) g) hr4)
    have hown4 := own_grow (hown3.alloc _) hr4 hlt
    obtain ⟨e0, e1, e2⟩ := own_cellsW hn.out hown4 Hx.out
    have fz := World.ownsRow.frozenAt hown4 (i * 3 + 2)
    dsimp only at e0 e1 e2
    have hs := Lib.hid (own_setW hown4 Hx.out r)
    have hl2 : Hid ((l.set i (x1, x2, r)).length = n) := by unfold Hid; rw [List.length_set, hn.out]
    have hCs := Lib.hid (CurP.set hC4 (p := ⟨gg, i * 3 + 2, none⟩) (by show w0.heap.size ≤ gg; omega) (by exact hgne) (.int .i64 r))
    have hgs := Lib.hid (grow_set hgw4 (p := ⟨gg, i * 3 + 2, none⟩) (by exact hg1) (.int .i64 r))
    clear hown3 hown4
    go_wp2_with fail
    go_ret
    exact ⟨l.set i (x1, x2, r), some ⟨gg, 0, none⟩, c, by rw [hl2.out]; rfl, HB.out.set i (by exact hxb.1) (by exact hxb.2.1) (by exact hrb), by rw [hl2.out]; omega, by rw [hl2.out]; exact hs.out, hCs.out.mono (by omega), hgs.out⟩
  have b0 : (v == 0) = false := by simp [v0]
  have b1 : (v == 1) = false := by simp [v1]
  have b2 : (v == 2) = false := by simp [v2]
  by_cases v3 : v = 3
  · subst v3
    clear b0 b1 b2
    go_wp2_with fail
    go_loopw [3] (fun o wr => ∃ (l : List W3) (D : Option Addr) (d : Nat), o = .slice D l.length d ∧ l.length ≤ 21 ∧ Hid (WinB l) ∧ wr.ownsRow w.heap.size 71 3 (.slice D l.length d) l.length (flat l) ∧ Hid (CurP w0 wr g (m + 1004) ∧ w.grownBy wr (some g))) (fun o _ => 21 - sliceLen o)
    case atStart => exact ⟨l, some ⟨gg, 0, none⟩, c, by rw [hn.out], by rw [hn.out]; omega, HB, by rw [hn.out]; exact hown3, ⟨hC3.mono (by omega), hgw3⟩⟩
    case round =>
      clear hl hn hown3
      obtain ⟨l, D, d, rfl, hl, hB, hown, hcur⟩ := hrel
      obtain ⟨wo, rfl⟩ : ∃ wo : World, wo = wr := ⟨_, rfl⟩
      have hgz : w.heap.size ≤ wo.heap.size := hcur.out.2.size
      obtain ⟨n, hn⟩ : ∃ n, Hid (l.length = n) := ⟨_, rfl⟩
      rw [hn.out] at hl hown
      by_cases hlt2 : n < 21
      · have hnz2 : (n : Int) < 21 := by omega
        have w1 : IntKind.i64.wrap (8 * (n : Int)) = 8 * (n : Int) := IntWalk.i64_in _ (by omega)
        have w2 : IntKind.i64.wrap (8 * (n : Int) + 1) = 8 * (n : Int) + 1 := IntWalk.i64_in _ (by omega)
        have hB2 := Lib.hid (hB.out.snoc (x := ((9 : Int), 8 * (n : Int), 8 * (n : Int) + 1)) (by dsimp only; omega) (by dsimp only; omega) (by dsimp only; omega))
        rw [hn.out]
        go_wp2_with (at_builtin; go_loud (refine wpList_push2 (α := W3) rfl (.tmp 57) (.tmp 66) 29 rfl w.heap.size 71 i0 _ 24 Try.underlying29 hi hz0 hz1 hz2 rfl (by omega) l D d (by rw [hn.out]; rfl) wo ((9 : Int), 8 * (n : Int), 8 * (n : Int) + 1) rfl wo.heap.size rfl rfl (by rw [hn.out]; exact hown) (by rw [hn.out]; omega) hgz ?_); intro acc' A' c'' w9 hacc' hl1 hl2 hown' hgr hblk _)
        rw [hn.out] at hl1 hl2
        go_roundw
        case rel => exact ⟨acc', A', c'', rfl, by omega, by unfold Hid; rw [hacc'.out]; exact hB2.out, hown', ⟨cur_push hcur.out.1 hlt hw0 hgr (by rw [hn.out]; exact fun k hk => (hown.lt k hk).1), grow_push hcur.out.2 hgr (by rw [hn.out]; exact fun k hk => (hown.lt k hk).1)⟩⟩
        case measure => simp only [sliceLen_mk]; have := hn.out; omega
      · obtain rfl : n = 21 := by omega
        rw [hn.out]
        go_wp2_with fail
        go_ret
        exact ⟨l, D, d, by rw [hn.out]; rfl, hB.out, by rw [hn.out]; omega, by rw [hn.out]; exact hown, hcur.out.1.mono (by omega), hcur.out.2⟩
  have b3 : (v == 3) = false := by simp [v3]
  go_wp2_with fail
  go_ret
  exact ⟨l, some ⟨gg, 0, none⟩, c, by rw [hn.out]; rfl, HB.out, by rw [hn.out]; omega, by rw [hn.out]; exact hown3, hC3.mono (by omega), hgw3⟩
end Go.Proofs.Ytipndibiioajmaa
