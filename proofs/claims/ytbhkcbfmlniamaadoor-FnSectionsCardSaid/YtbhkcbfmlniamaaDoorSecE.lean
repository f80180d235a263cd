/-
  Draws of sections.
-/
import Derived.Test.YtbhkcbfmlniamaaDoorDraw
import Derived.Test.YtbhkcbfmlniamaaDoorSecC
import Derived.Test.YtbhkcbfmlniamaaDoorStep
import Derived.Deep.RegionHeld3
import Derived.Deep.RegionLaw
import Derived.Deep.DeepCutAuto
namespace Go.Proofs.YtbhkcbfmlniamaaDoor
open Go.RowKit

def SecB (l : List Sec) : Prop := ∀ x ∈ l, x.1.size ≤ 100 ∧ Tm x.2.1 ∧ Tm x.2.2
def SecG (l : List Sec) : Prop := ∀ x ∈ l, x.1.size ≤ 100 ∧ (1 ≤ x.2.1 ∧ x.2.1 ≤ 6) ∧ 0 ≤ x.2.2 ∧ x.2.2 ≤ 100
theorem SecG.nil : SecG [] := fun x h => by simp at h
theorem SecG.snoc {l : List Sec} {x : Sec} (h : SecG l) (h1 : x.1.size ≤ 100) (h2 : 1 ≤ x.2.1 ∧ x.2.1 ≤ 6) (h3 : 0 ≤ x.2.2 ∧ x.2.2 ≤ 100) : SecG (l ++ [x]) := by
  intro y hy
  rcases List.mem_append.1 hy with hy | hy
  · exact h y hy
  · simp at hy; subst hy; exact ⟨h1, h2, h3⟩
theorem SecG.bd {l : List Sec} (h : SecG l) : SecB l := fun x hx => ⟨(h x hx).1, by have := (h x hx).2.1; unfold Tm; omega, by have := (h x hx).2.2; unfold Tm; omega⟩
theorem SecB.nil : SecB [] := fun x h => by simp at h
theorem SecB.snoc {l : List Sec} {x : Sec} (h : SecB l) (h1 : x.1.size ≤ 100) (h2 : Tm x.2.1) (h3 : Tm x.2.2) : SecB (l ++ [x]) := by
  intro y hy
  rcases List.mem_append.1 hy with hy | hy
  · exact h y hy
  · simp at hy; subst hy; exact ⟨h1, h2, h3⟩
theorem SecB.set {l : List Sec} (h : SecB l) (k : Nat) {x : Sec} (h1 : x.1.size ≤ 100) (h2 : Tm x.2.1) (h3 : Tm x.2.2) : SecB (l.set k x) := by
  intro y hy
  rcases List.mem_or_eq_of_mem_set hy with hy | rfl
  · exact h y hy
  · exact ⟨h1, h2, h3⟩
theorem SecB.size {l : List Sec} (h : SecB l) : ∀ x ∈ l, x.1.size ≤ 9223372036854775807 := fun x hx => by have := (h x hx).1; omega
theorem flat_setS0 : ∀ (l : List Sec) (k : Nat) (x : Sec) (v : ByteArray), l[k]? = some x → (flat l).set (k * 3) (.string v) = flat (l.set k (v, x.2.1, x.2.2))
  | [], _, _, _, h => by simp at h
  | y :: l, 0, x, v, h => by
    simp at h; subst h
    simp [flat_consS]
  | y :: l, k + 1, x, v, h => by
    rw [flat_consS, show (k + 1) * 3 = k * 3 + 1 + 1 + 1 by omega]
    simp only [List.set_cons_succ]
    rw [flat_setS0 l k x v (by simpa using h), flat_consS]
theorem own_setS0 {w : World} {base : Nat} {e : TypeId} {n c g k : Nat} {l : List Sec} {x : Sec} (h : w.ownsRow base e 3 (.slice (some ⟨g, 0, none⟩) n c) n (flat l)) (hx : l[k]? = some x) (v : ByteArray) :
    (w.setCell ⟨g, k * 3, none⟩ (.string v)).ownsRow base e 3 (.slice (some ⟨g, 0, none⟩) n c) n (flat (l.set k (v, x.2.1, x.2.2))) ∧ w.grownBy (w.setCell ⟨g, k * 3, none⟩ (.string v)) (some g) := by
  have h1 := World.ownsRow.stored h (k * 3) (.string v)
  rw [flat_setS0 l k x v hx] at h1
  exact h1

theorem s_sectionNames (w : World) : Calls Tryd.prog 64 #[] w fun e w' => ∃ arr : Array Value, e = .returned (.slice (some ⟨w.heap.size, 0, none⟩) 10 10) ∧ arr.size = 10 ∧ Hid (SmS arr.toList) ∧ w' = w.alloc (.cells arr 9) := by
  go_enter Tryd.func64, Tryd.ntmps64
  go_wp2_with fail
  go_ret
  exact ⟨_, rfl, rfl, fun u hu => by
    simp at hu
    rcases hu with rfl | rfl | rfl | rfl | rfl | rfl | rfl | rfl | rfl | rfl
    all_goals exact ⟨_, rfl, by decide⟩, rfl⟩

set_option maxHeartbeats 8000000 in
set_option maxRecDepth 20000 in
theorem sec_tail {w0 w w2 : World} {g m n : Nat} {s1 s5 s6 s7 s8 s9 s10 s11 s12 s13 s14 s15 s16 s17 s18 s19 s20 s21 s22 s23 s24 s25 s26 s27 s28 s29 s30 s31 s32 s33 s34 s35 s36 s37 s38 s39 s40 s41 s42 s43 s44 s45 s46 s47 s48 s49 s50 s51 s52 s53 s54 s55 s56 s57 s58 s59 s60 s61 s62 s63 s64 s65 s66 s67 s68 s69 s70 s71 s72 s73 s74 s75 s76 s77 s78 s79 s80 s81 s82 s83 s84 s85 s86 s87 s88 s89 s90 s91 s92 s93 s94 s95 s96 s97 s98 s99 s100 s101 s102 : Value} (hlt : g < w.heap.size) (hw0 : w0.heap.size ≤ w.heap.size) (hn1 : 1 ≤ n) (hn2 : n ≤ 10) (hm : m ≤ 1000000000) (hC2 : CurP w0 w2 g (m + 4)) (hgg2 : w.grownBy w2 (some g)) :
    Code.wp Tryd.prog (Code.tailOf 4 (Tryd.f31.body.getD .skip)) (bodyPost Tryd.prog Tryd.f31 (fun e w' => ∃ (l : List Sec) (A : Option Addr) (c : Nat), e = .returned (.slice A l.length c) ∧ SecB l ∧ l.length ≤ 30 ∧ w'.ownsRow w.heap.size 34 3 (.slice A l.length c) l.length (flat l) ∧ CurP w0 w' g (m + 1000) ∧ w.grownBy w' (some g))) ⟨#[.pointer (some ⟨g, 0, none⟩), s1, .slice none 0 0, .slice none 0 0, .int .i64 (n : Int), s5, s6, s7, s8, s9, s10, s11, s12, s13, s14, s15, s16, s17, s18, s19, s20, s21, s22, s23, s24, s25, s26, s27, s28, s29, s30, s31, s32, s33, s34, s35, s36, s37, s38, s39, s40, s41, s42, s43, s44, s45, s46, s47, s48, s49, s50, s51, s52, s53, s54, s55, s56, s57, s58, s59, s60, s61, s62, s63, s64, s65, s66, s67, s68, s69, s70, s71, s72, s73, s74, s75, s76, s77, s78, s79, s80, s81, s82, s83, s84, s85, s86, s87, s88, s89, s90, s91, s92, s93, s94, s95, s96, s97, s98, s99, s100, s101, s102], []⟩ w2 := by
  obtain ⟨i0, hi, hz0, hz1, hz2⟩ := info_parts infoSection
  conv => arg 2; whnf
  conv => arg 4; zeta
  have hz2' := hgg2.size
  go_wp2_with fail
  refine (s_sectionNames w2).mono ?_
  rintro _ w3 ⟨arr, rfl, has, hsm, rfl⟩
  have hn2z : (n : Int) ≤ 10 := by omega
  go_wp2_with fail
  obtain ⟨q, hq⟩ : ∃ q, w2.heap.size = q := ⟨_, rfl⟩
  have hqb : w2.alloc (.cells arr 9) = w2.alloc (.cells arr 9) := rfl
  have hb3 := heap_alloc_new w2 (.cells arr 9)
  have hC3 := hC2.alloc (.cells arr 9)
  have hgg3 := grow_alloc hgg2 (.cells arr 9)
  have hs3 : (w2.alloc (.cells arr 9)).heap.size = q + 1 := by simp; omega
  rw [hq] at hb3
  rw [hq]
  clear hqb
  generalize w2.alloc (.cells arr 9) = w3 at *
  have hgq : ¬(q = g) := by omega
  have hqw : w.heap.size ≤ q := by omega
  clear hC2 hgg2
  go_loopw [3, 17] (fun o i wr => ∃ (k : Nat) (l : List Sec) (D : Option Addr) (d : Nat), i = .int .i64 k ∧ k ≤ n ∧ o = .slice D l.length d ∧ Hid (l.length = k) ∧ Hid (SecG l) ∧ wr.ownsRow w3.heap.size 34 3 (.slice D l.length d) l.length (flat l) ∧ wr.heap[q]? = some (.cells arr 9 (0, 0)) ∧ Hid (CurP w0 wr g (m + 4 + 12 * k) ∧ w.grownBy wr (some g)) ∧ w3.heap.size ≤ wr.heap.size) (fun _ i _ => n - (intOf i).toNat)
  case atStart => exact ⟨0, [], none, 0, by go_num, Nat.zero_le _, rfl, rfl, SecG.nil, World.ownsRow_nil _ _ _ _, hb3, ⟨hC3, hgg3⟩, Nat.le_refl _⟩
  case round =>
    obtain ⟨k, l, D, d, rfl, hk, rfl, hlk, hG, hown, hqr, hcur, hsz⟩ := hrel
    obtain ⟨wo, rfl⟩ : ∃ wo : World, wo = wr := ⟨_, rfl⟩
    rw [hlk.out] at hown ⊢
    by_cases hlt2 : k < n
    · have hkz : (k : Int) < (n : Int) := by omega
      obtain ⟨u, hu⟩ : ∃ u, arr[k]? = some u := ⟨arr[k]'(by omega), Array.getElem?_eq_getElem _⟩
      have hum : u ∈ arr.toList := by
        obtain ⟨h, rfl⟩ := Array.getElem?_eq_some_iff.1 hu
        exact Array.mem_toList_iff.2 (Array.getElem_mem h)
      obtain ⟨nm, rfl, hnm⟩ := hsm.out u hum
      have hc : wo.cell? ⟨q, k, none⟩ = some (.string nm) := by
        rw [cell_of_row wo q k arr 9 (0, 0) hqr]
        exact hu
      have hlq : q < wo.heap.size := by omega
      have hcg := hcur.out.1
      clear hu hum
      go_wp2_with fail
      refine (c_pick (w0 := w0) hcg (by omega) (by omega)).mono ?_
      rintro _ w4 ⟨a, rfl, ⟨ha1, ha2, ha3⟩, hC4, hr4⟩
      have ha4 := ha3 (by omega)
      have wa : IntKind.i64.wrap (1 + a) = 1 + a := IntWalk.i64_in _ (by omega)
      have hgg4 : w.grownBy w4 (some g) := grownBy_trans hcur.out.2 hr4
      have hq4 : w4.heap[q]? = some (.cells arr 9 (0, 0)) := (hr4.block q hlq (by simpa using hgq)).trans hqr
      have hown4 := own_grow hown hr4 (by omega)
      have hs4 := hr4.size
      clear hown ha3 hr4
      go_wp2_with fail
      refine (c_among (w0 := w0) hC4 (by omega) (by simp [SmV]; try omega) (by first | rfl | simp) (by omega) (by omega) (by first | rfl | simp)).mono ?_
      rintro _ w5 ⟨s, rfl, ⟨hs1, hs2, hsm5⟩, hC5, hr5⟩
      have hsb : 1 ≤ s ∧ s ≤ 6 := by
        simp at hsm5
        omega
      have hgg5 : w.grownBy w5 (some g) := grownBy_trans (grow_alloc hgg4 _) hr5
      have hq5 : w5.heap[q]? = some (.cells arr 9 (0, 0)) := (hr5.block q (by simp; omega) (by simpa using hgq)).trans ((Below.heap_alloc w4 _ q (by omega)).trans hq4)
      have hown5 := own_grow (hown4.alloc _) hr5 (by omega)
      have hs5 : w4.heap.size + 1 ≤ w5.heap.size := by have := hr5.size; simpa using this
      clear hown4 hsm5 hr5
      go_wp2_with fail
      refine (c_pick (w0 := w0) hC5 (by omega) (by omega)).mono ?_
      rintro _ w6 ⟨b, rfl, ⟨hb1, hb2, hb3'⟩, hC6, hr6⟩
      have hb4 := hb3' (by omega)
      have hgg6 : w.grownBy w6 (some g) := grownBy_trans hgg5 hr6
      have hq6 : w6.heap[q]? = some (.cells arr 9 (0, 0)) := (hr6.block q (by omega) (by simpa using hgq)).trans hq5
      have hown6 := own_grow hown5 hr6 (by omega)
      have hs6 := hr6.size
      clear hown5 hb3' hr6
      go_wp2_with fail
      refine (c_among (w0 := w0) hC6 (by omega) (by simp [SmV]; try omega) (by first | rfl | simp) (by omega) (by omega) (by first | rfl | simp)).mono ?_
      rintro _ w7 ⟨v, rfl, ⟨hv1, hv2, hvm⟩, hC7, hr7⟩
      have hvb : 0 ≤ v ∧ v ≤ 100 := by
        simp at hvm
        omega
      have hgg7 : w.grownBy w7 (some g) := grownBy_trans (grow_alloc hgg6 _) hr7
      have hq7 : w7.heap[q]? = some (.cells arr 9 (0, 0)) := (hr7.block q (by simp; omega) (by simpa using hgq)).trans ((Below.heap_alloc w6 _ q (by omega)).trans hq6)
      have hown7 := own_grow (hown6.alloc _) hr7 (by omega)
      have hs7 : w6.heap.size + 1 ≤ w7.heap.size := by have := hr7.size; simpa using this
      clear hown6 hvm hr7
      have hG2 := Lib.hid (hG.out.snoc (x := (nm, s, v)) hnm hsb hvb)
      have hq7l : q < w7.heap.size := by omega
      go_wp2_with (at_builtin; go_loud (refine wpList_push3 (α := Sec) rfl (.tmp 21) (.tmp 35) 24 rfl w3.heap.size 34 i0 _ 32 Tryd.underlying24 hi hz0 hz1 hz2 rfl (by omega) l D d (by rw [hlk.out]; rfl) w7 (nm, s, v) rfl w7.heap.size rfl rfl (by rw [hlk.out]; exact hown7) (by rw [hlk.out]; omega) (by omega) ?_); intro acc' A' c'' w9 hacc' hl1 hl2 hown' hgr hblk _)
      rw [hlk.out] at hl1 hl2
      have hrow : ∀ j, (Value.slice D l.length d).ownBlock = some j → w3.heap.size ≤ j := by rw [hlk.out]; exact fun j hj => (hown7.lt j hj).1
      have hq9 : w9.heap[q]? = some (.cells arr 9 (0, 0)) := (hgr.block q hq7l (fun e => by have := hrow q e.symm; omega)).trans hq7
      go_roundw
      case rel => exact ⟨k + 1, acc', A', c'', by go_num, by omega, rfl, by unfold Hid; omega, by unfold Hid; rw [hacc'.out]; exact hG2.out, hown', hq9, ⟨(cur_push hC7 hlt hw0 hgr (fun j hj => by have := hrow j hj; omega)).mono (by omega), grow_push hgg7 hgr (fun j hj => by have := hrow j hj; omega)⟩, by have := hgr.size; omega⟩
      case measure => simp [intOf]; omega
    · obtain rfl : k = n := by omega
      obtain ⟨gg, hA, hg1, hg2⟩ := own_addr hown (by omega)
      subst hA
      have hgne : ¬(gg = g) := by omega
      have hggne : ¬(g = gg) := by omega
      have hgw : w.heap.size ≤ gg := by omega
      have hown := own_lower hown (show w.heap.size ≤ w3.heap.size by omega)
      have hC8 := hcur.out.1
      have hgg8 := hcur.out.2
      clear hcur hqr hb3 hC3 hgg3 hsm has
      go_wp2_with fail
      refine (c_pick (w0 := w0) hC8 (by omega) (by omega)).mono ?_
      rintro _ w4 ⟨i, rfl, ⟨hi1, hi2, hi3⟩, hC4, hr4⟩
      have hi4 := hi3 (by omega)
      obtain ⟨i, rfl⟩ : ∃ j : Nat, i = j := ⟨i.toNat, by omega⟩
      have hgg4 : w.grownBy w4 (some g) := grownBy_trans hgg8 hr4
      have hown4 := own_grow hown hr4 hlt
      obtain ⟨x, hx⟩ := get_of_lt (show i < l.length by rw [hlk.out]; omega)
      have Hx := Lib.hid hx
      have hxb := hG.out x (mem_of_get hx)
      obtain ⟨x1, x2, x3⟩ := x
      dsimp only at hxb
      have hlt4 := CurP.lt hC4
      clear hx hi3 hown
      go_wp2_with fail
      refine (c_pick (w0 := w0) hC4 (by omega) (by omega)).mono ?_
      rintro _ w5 ⟨v, rfl, ⟨hv1, hv2, -⟩, hC5, hr5⟩
      have hgg5 : w.grownBy w5 (some g) := grownBy_trans hgg4 hr5
      have hown5 := own_grow hown4 hr5 hlt
      have hlt5 := CurP.lt hC5
      clear hown4
      by_cases v0 : v = 0
      · subst v0
        go_wp2_with fail
        refine (c_of (w0 := w0) hC5 (by omega) (by intro u hu; simp at hu; rcases hu with rfl | rfl | rfl | rfl | rfl; all_goals exact ⟨_, rfl, by decide⟩) (by first | rfl | simp) (by omega) (by omega) (by first | rfl | simp)).mono ?_
        rintro _ w6 ⟨r, rfl, hr1', hC6, hr6⟩
        have hgg6 : w.grownBy w6 (some g) := grownBy_trans hgg5 (grownBy_trans (gw_grow ((Gw.refl w5).alloc _) g) hr6)
        have hown6 := own_grow (hown5.alloc _) hr6 hlt
        obtain ⟨e0, e1, e2⟩ := own_cellsN hown6 hlk.out Hx.out
        have fz := World.ownsRow.frozenAt hown6 (i * 3)
        dsimp only at e0 e1 e2
        have hs := Lib.hid (own_setS0 hown6 Hx.out r).1
        have hl2 : Hid ((l.set i (r, x2, x3)).length = k) := by unfold Hid; rw [List.length_set, hlk.out]
        have hCs := Lib.hid (CurP.set hC6 (p := ⟨gg, i * 3, none⟩) (by show w0.heap.size ≤ gg; omega) (by exact hgne) (.string r))
        have hgs := Lib.hid (grow_set hgg6 (p := ⟨gg, i * 3, none⟩) (by exact hgw) (.string r))
        clear hown5 hown6
        go_wp2_with fail
        go_ret
        exact ⟨l.set i (r, x2, x3), some ⟨gg, 0, none⟩, d, by rw [hl2.out]; rfl, hG.out.bd.set i (by exact hr1') (by dsimp only; omega) (by dsimp only; omega), by rw [hl2.out]; omega, by rw [hl2.out]; exact hs.out, hCs.out.mono (by omega), hgs.out⟩
      by_cases v1 : v = 1
      · subst v1
        go_wp2_with fail
        refine (c_among (w0 := w0) hC5 (by omega) (by simp [SmV]; try omega) (by first | rfl | simp) (by omega) (by omega) (by first | rfl | simp)).mono ?_
        rintro _ w6 ⟨r, rfl, ⟨hr1', hr2', hrm⟩, hC6, hr6⟩
        have hrb : Tm r := by
          simp at hrm
          omega
        clear hrm
        have hgg6 : w.grownBy w6 (some g) := grownBy_trans hgg5 (grownBy_trans (gw_grow ((Gw.refl w5).alloc _) g) hr6)
        have hown6 := own_grow (hown5.alloc _) hr6 hlt
        obtain ⟨e0, e1, e2⟩ := own_cellsN hown6 hlk.out Hx.out
        have fz := World.ownsRow.frozenAt hown6 (i * 3 + 1)
        dsimp only at e0 e1 e2
        have hs := Lib.hid (own_setS1 hown6 Hx.out r).1
        have hl2 : Hid ((l.set i (x1, r, x3)).length = k) := by unfold Hid; rw [List.length_set, hlk.out]
        have hCs := Lib.hid (CurP.set hC6 (p := ⟨gg, i * 3 + 1, none⟩) (by show w0.heap.size ≤ gg; omega) (by exact hgne) (.int .i64 r))
        have hgs := Lib.hid (grow_set hgg6 (p := ⟨gg, i * 3 + 1, none⟩) (by exact hgw) (.int .i64 r))
        clear hown5 hown6
        go_wp2_with fail
        go_ret
        exact ⟨l.set i (x1, r, x3), some ⟨gg, 0, none⟩, d, by rw [hl2.out]; rfl, hG.out.bd.set i (by exact hxb.1) (by exact hrb) (by dsimp only; omega), by rw [hl2.out]; omega, by rw [hl2.out]; exact hs.out, hCs.out.mono (by omega), hgs.out⟩
      by_cases v2 : v = 2
      · subst v2
        go_wp2_with fail
        refine (c_among (w0 := w0) hC5 (by omega) (by simp [SmV]; try omega) (by first | rfl | simp) (by omega) (by omega) (by first | rfl | simp)).mono ?_
        rintro _ w6 ⟨r, rfl, ⟨hr1', hr2', hrm⟩, hC6, hr6⟩
        have hrb : Tm r := by
          simp at hrm
          omega
        clear hrm
        have hgg6 : w.grownBy w6 (some g) := grownBy_trans hgg5 (grownBy_trans (gw_grow ((Gw.refl w5).alloc _) g) hr6)
        have hown6 := own_grow (hown5.alloc _) hr6 hlt
        obtain ⟨e0, e1, e2⟩ := own_cellsN hown6 hlk.out Hx.out
        have fz := World.ownsRow.frozenAt hown6 (i * 3 + 2)
        dsimp only at e0 e1 e2
        have hs := Lib.hid (own_setS2 hown6 Hx.out r).1
        have hl2 : Hid ((l.set i (x1, x2, r)).length = k) := by unfold Hid; rw [List.length_set, hlk.out]
        have hCs := Lib.hid (CurP.set hC6 (p := ⟨gg, i * 3 + 2, none⟩) (by show w0.heap.size ≤ gg; omega) (by exact hgne) (.int .i64 r))
        have hgs := Lib.hid (grow_set hgg6 (p := ⟨gg, i * 3 + 2, none⟩) (by exact hgw) (.int .i64 r))
        clear hown5 hown6
        go_wp2_with fail
        go_ret
        exact ⟨l.set i (x1, x2, r), some ⟨gg, 0, none⟩, d, by rw [hl2.out]; rfl, hG.out.bd.set i (by exact hxb.1) (by dsimp only; omega) (by exact hrb), by rw [hl2.out]; omega, by rw [hl2.out]; exact hs.out, hCs.out.mono (by omega), hgs.out⟩
      have b0 : (v == 0) = false := by simp [v0]
      have b1 : (v == 1) = false := by simp [v1]
      have b2 : (v == 2) = false := by simp [v2]
      by_cases v3 : v = 3
      · subst v3
        clear b0 b1 b2
        obtain ⟨e0, e1, e2⟩ := own_cellsN hown5 hlk.out Hx.out
        dsimp only at e0 e1 e2
        have hP6 : ∀ x ∈ l, 1 ≤ x.2.1 ∧ x.2.1 ≤ 60 := fun x hx => by have := (hG.out x hx).2.1; omega
        have hsb := ssum_bd hP6
        rw [hlk.out] at hsb
        have rdl := own_rd (α := Sec) (by rw [hlk.out]; exact hown5)
        have hggl : gg < w5.heap.size := by have := (hown5.lt gg rfl).2; omega
        obtain ⟨S, hS⟩ : ∃ S, ssum l = S := ⟨_, rfl⟩
        have T : Hid (∀ W, Gw w5 W → Calls Tryd.prog 58 #[.slice (some ⟨gg, 0, none⟩) k d] W fun e w' => e = .returned (.int .i64 S) ∧ Gw W w') := fun W hW => by
          have := s_seSum (some ⟨gg, 0, none⟩) d k l W hlk.out (by omega) (rdl.gw hW) hP6
          rw [hS] at this
          exact this
        rw [hS] at hsb
        have wS : IntKind.i64.wrap (60 - S) = 60 - S := IntWalk.i64_in _ (by omega)
        have Hown := Lib.hid hown5
        clear hown5 hS hP6 rdl
        go_wp2_with fail
        go_region_law (first
          | (go_simp; go_at_call 58; refine (T.out _ (by (repeat (first | with_reducible exact Gw.refl _ | with_reducible assumption | ((with_reducible refine Gw.set ?_ ?_ _); rotate_left; (focus (first | (simp; done) | (simp; omega) | omega))) | with_reducible refine Gw.alloc ?_ _ | with_reducible refine Gw.drew ?_ | with_reducible refine Gw.drewN ?_ _ | (refine Gw.trans ?_ (by with_reducible assumption)))))).mono ?_; rintro e w6 ⟨rfl, hb6⟩; have G6 : Gw w5 w6 := Gw.trans (by (repeat (first | with_reducible exact Gw.refl _ | with_reducible assumption | ((with_reducible refine Gw.set ?_ ?_ _); rotate_left; (focus (first | (simp; done) | (simp; omega) | omega))) | with_reducible refine Gw.alloc ?_ _ | with_reducible refine Gw.drew ?_ | with_reducible refine Gw.drewN ?_ _ | (refine Gw.trans ?_ (by with_reducible assumption))))) hb6; have e1' : w6.cell? ⟨gg, i * 3 + 1, none⟩ = some (.int .i64 x2) := (G6.cells gg (i * 3 + 1) hggl).trans e1)
          | (go_simp; go_at_call 59; refine (c_pick (w0 := w0) (hC5.to (by (repeat (first | with_reducible exact Gw.refl _ | with_reducible assumption | ((with_reducible refine Gw.set ?_ ?_ _); rotate_left; (focus (first | (simp; done) | (simp; omega) | omega))) | with_reducible refine Gw.alloc ?_ _ | with_reducible refine Gw.drew ?_ | with_reducible refine Gw.drewN ?_ _ | (refine Gw.trans ?_ (by with_reducible assumption)))))) (by omega) (by omega)).mono ?_; rintro e w7 ⟨u, rfl, ⟨hu1, hu2, hu3⟩, hC7, hr7⟩; have hu4 := hu3 (by omega); have own7 := own_grow (own_gw Hown.out (show Gw w5 _ from (by (repeat (first | with_reducible exact Gw.refl _ | with_reducible assumption | ((with_reducible refine Gw.set ?_ ?_ _); rotate_left; (focus (first | (simp; done) | (simp; omega) | omega))) | with_reducible refine Gw.alloc ?_ _ | with_reducible refine Gw.drew ?_ | with_reducible refine Gw.drewN ?_ _ | (refine Gw.trans ?_ (by with_reducible assumption))))))) hr7 hlt; obtain ⟨f0, f1, f2⟩ := own_cellsN own7 hlk.out Hx.out; have fz := World.ownsRow.frozenAt own7 (i * 3 + 1); have wT : IntKind.i64.wrap (60 - S + u) = 60 - S + u := (IntWalk.i64_in _ (by omega)); have wX : IntKind.i64.wrap (x2 + (60 - S + u)) = x2 + (60 - S + u) := (IntWalk.i64_in _ (by omega)); have hs := Lib.hid (own_setS1 own7 Hx.out (x2 + (60 - S + u))).1; have hgg7 : w.grownBy w7 (some g) := grownBy_trans hgg5 (grownBy_trans (gw_grow (show Gw w5 _ from (by (repeat (first | with_reducible exact Gw.refl _ | with_reducible assumption | ((with_reducible refine Gw.set ?_ ?_ _); rotate_left; (focus (first | (simp; done) | (simp; omega) | omega))) | with_reducible refine Gw.alloc ?_ _ | with_reducible refine Gw.drew ?_ | with_reducible refine Gw.drewN ?_ _ | (refine Gw.trans ?_ (by with_reducible assumption)))))) g) hr7); have hCs := Lib.hid (CurP.set hC7 (p := ⟨gg, i * 3 + 1, none⟩) (by show w0.heap.size ≤ gg; omega) (by exact hgne) (.int .i64 (x2 + (60 - S + u)))); have hgs := Lib.hid (grow_set hgg7 (p := ⟨gg, i * 3 + 1, none⟩) (by exact hgw) (.int .i64 (x2 + (60 - S + u)))); clear own7; dsimp only at f0 f1 f2))
        all_goals
          have hl2 : Hid ((l.set i (x1, x2 + (60 - S + u), x3)).length = k) := by unfold Hid; rw [List.length_set, hlk.out]
          go_wp2_with fail
          go_ret
          exact ⟨l.set i (x1, x2 + (60 - S + u), x3), some ⟨gg, 0, none⟩, d, by rw [hl2.out]; rfl, hG.out.bd.set i (by exact hxb.1) (by dsimp only; omega) (by dsimp only; omega), by rw [hl2.out]; omega, by rw [hl2.out]; exact hs.out, hCs.out.mono (by omega), hgs.out⟩
      have b3 : (v == 3) = false := by simp [v3]
      by_cases v4 : v = 4
      · subst v4
        clear b0 b1 b2 b3
        go_wp2_with fail
        go_ret
        exact ⟨[], none, 0, rfl, SecB.nil, by simp, World.ownsRow_nil _ _ _ _, hC5.mono (by omega), hgg5⟩
      have b4 : (v == 4) = false := by simp [v4]
      by_cases v5 : v = 5
      · subst v5
        clear b0 b1 b2 b3 b4
        go_wp2_with fail
        go_loopw [3] (fun o wr => ∃ (l : List Sec) (D : Option Addr) (d : Nat), o = .slice D l.length d ∧ l.length ≤ 11 ∧ Hid (SecB l) ∧ wr.ownsRow w.heap.size 34 3 (.slice D l.length d) l.length (flat l) ∧ Hid (CurP w0 wr g (m + 300) ∧ w.grownBy wr (some g))) (fun o _ => 11 - sliceLen o)
        case atStart => exact ⟨l, some ⟨gg, 0, none⟩, d, by rw [hlk.out], by rw [hlk.out]; omega, hG.out.bd, by rw [hlk.out]; exact hown5, ⟨hC5.mono (by omega), hgg5⟩⟩
        case round =>
          clear hlk hG hown5 Hx hxb hgne hggne
          obtain ⟨l, D, d, rfl, hl, hB, hown, hcur⟩ := hrel
          obtain ⟨wo, rfl⟩ : ∃ wo : World, wo = wr := ⟨_, rfl⟩
          have hgz : w.heap.size ≤ wo.heap.size := hcur.out.2.size
          obtain ⟨n, hn⟩ : ∃ n, Hid (l.length = n) := ⟨_, rfl⟩
          rw [hn.out] at hl hown
          rw [hn.out]
          by_cases hlt2 : n < 11
          · have hnz2 : (n : Int) < 11 := by omega
            have wa : IntKind.i64.wrap (97 + (n : Int)) = 97 + (n : Int) := IntWalk.i64_in _ (by omega)
            have wb : IntKind.u8.wrap (97 + (n : Int)) = 97 + (n : Int) := IntWalk.u8_in _ (by omega)
            have hcv : (convert 22 9 (.slice (some ⟨wo.heap.size, 0, none⟩) 1 1)).run Tryd.prog (wo.alloc (.cells #[.int .u8 (97 + (n : Int))] 5)) = .ok (.string (strOfNums [97 + (n : Int)])) (wo.alloc (.cells #[.int .u8 (97 + (n : Int))] 5)) :=
              run_convert_bytes_arg _ _ _ Tryd.underlying22 Tryd.underlying5 _ _ _ _ [97 + (n : Int)] rfl (fun i hi => by
                have hi : i < 1 := hi
                obtain rfl : i = 0 := by omega
                rw [cell_of_row _ _ _ _ _ _ (heap_alloc_new wo (.cells #[.int .u8 (97 + (n : Int))] 5))]
                rfl) _ Tryd.underlying9
            obtain ⟨dd, hd⟩ : ∃ d : ByteArray, d = strOfNums [97 + (n : Int)] := ⟨_, rfl⟩
            rw [← hd] at hcv
            have hds : dd.size = 1 := by rw [hd, strOfNums_size]; rfl
            have hadd : (Op.stringOp .add (ByteArray.mk #[120]) dd).run Tryd.prog (wo.alloc (.cells #[.int .u8 (97 + (n : Int))] 5)) = .ok (.string (ByteArray.mk #[120] ++ dd)) (wo.alloc (.cells #[.int .u8 (97 + (n : Int))] 5)) := run_string_add_sum _ _ _ (by
              have : (ByteArray.mk #[120]).size = 1 := rfl
              omega)
            have hnm : (ByteArray.mk #[120] ++ dd).size ≤ 100 := by
              have : (ByteArray.mk #[120]).size = 1 := rfl
              rw [ByteArray.size_append]
              omega
            generalize ByteArray.mk #[120] ++ dd = R at hadd hnm
            have hB2 := Lib.hid (hB.out.snoc (x := (R, 1, 0)) hnm (by dsimp only; omega) (by dsimp only; omega))
            have hownb := hown.alloc (.cells #[.int .u8 (97 + (n : Int))] 5)
            clear hd
            go_wp2_with (at_builtin; go_loud (refine wpList_push3 (α := Sec) rfl (.tmp 91) (.tmp 100) 24 rfl w.heap.size 34 i0 _ 32 Tryd.underlying24 hi hz0 hz1 hz2 rfl (by omega) l D d (by rw [hn.out]; rfl) (wo.alloc (.cells #[.int .u8 (97 + (n : Int))] 5)) (R, 1, 0) rfl (wo.heap.size + 1) (by simp) rfl (by rw [hn.out]; exact hownb) (by rw [hn.out]; omega) (by simp; omega) ?_); intro acc' A' c'' w9 hacc' hl1 hl2 hown' hgr hblk _)
            rw [hn.out] at hl1 hl2
            have hrow : ∀ j, (Value.slice D l.length d).ownBlock = some j → w.heap.size ≤ j := by rw [hn.out]; exact fun j hj => (hownb.lt j hj).1
            go_roundw
            case rel => exact ⟨acc', A', c'', rfl, by omega, by unfold Hid; rw [hacc'.out]; exact hB2.out, hown', ⟨cur_push (hcur.out.1.alloc _) hlt hw0 hgr hrow, grow_push (grow_alloc hcur.out.2 _) hgr hrow⟩⟩
            case measure => simp only [sliceLen_mk]; have := hn.out; omega
          · obtain rfl : n = 11 := by omega
            go_wp2_with fail
            go_ret
            exact ⟨l, D, d, by rw [hn.out]; rfl, hB.out, by rw [hn.out]; omega, by rw [hn.out]; exact hown, hcur.out.1.mono (by omega), hcur.out.2⟩
      have b5 : (v == 5) = false := by simp [v5]
      go_wp2_with fail
      go_ret
      exact ⟨l, some ⟨gg, 0, none⟩, d, by rw [hlk.out]; rfl, hG.out.bd, by rw [hlk.out]; omega, by rw [hlk.out]; exact hown5, hC5.mono (by omega), hgg5⟩

set_option maxHeartbeats 8000000 in
set_option maxRecDepth 20000 in
theorem s_sections {w0 w : World} {g m : Nat} (hC : CurP w0 w g m) (hm : m ≤ 1000000000) :
    Calls Tryd.prog 31 #[.pointer (some ⟨g, 0, none⟩)] w (fun e w' => ∃ (l : List Sec) (A : Option Addr) (c : Nat), e = .returned (.slice A l.length c) ∧ SecB l ∧ l.length ≤ 30 ∧ w'.ownsRow w.heap.size 34 3 (.slice A l.length c) l.length (flat l) ∧ CurP w0 w' g (m + 1000) ∧ w.grownBy w' (some g)) := by
  have hlt := CurP.lt hC
  have hw0 := hC.gw.size
  go_enter Tryd.func31, Tryd.ntmps31
  go_wp2_with fail
  refine (c_pick (w0 := w0) hC (by omega) (by omega)).mono ?_
  rintro _ w1 ⟨a, rfl, ⟨ha1, ha2, ha3⟩, hC1, hr1⟩
  have ha4 := ha3 (by omega)
  obtain ⟨a, rfl⟩ : ∃ k : Nat, a = k := ⟨a.toNat, by omega⟩
  have wr1 : IntKind.i64.wrap (1 + (a : Int)) = ((a + 1 : Nat) : Int) := by rw [IntWalk.i64_in _ (by omega)]; omega
  clear ha3
  go_wp2_with fail
  refine (s_one w0 w1 g (m + 2) 20 (by omega) (by omega) hC1).mono ?_
  rintro _ w2 ⟨b, rfl, hC2, hr2⟩
  have hgg2 : w.grownBy w2 (some g) := grownBy_trans hr1 hr2
  cases b
  all_goals dsimp only
  · repeat (first | (go_at_K; go_step; exact sec_tail (n := a + 1) hlt hw0 (by omega) (by omega) hm hC2 hgg2) | go_step)
  · repeat (first | (go_at_K; go_step; exact sec_tail (n := 10) hlt hw0 (by omega) (by omega) hm hC2 hgg2) | go_step)
end Go.Proofs.YtbhkcbfmlniamaaDoor
