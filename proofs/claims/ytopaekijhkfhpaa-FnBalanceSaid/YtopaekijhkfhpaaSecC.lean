/-
  Sections: a player who goes to another one; two that are joined.
-/
import Derived.Test.YtopaekijhkfhpaaSecB
namespace Go.Proofs.Ytopaekijhkfhpaa
open Go.RowKit

theorem flat_consS (y : Sec) (l : List Sec) : flat (y :: l) = .string y.1 :: .int .i64 y.2.1 :: .int .i64 y.2.2 :: flat l := by simp [flat, Flat.cells]
theorem flat_setS1 : ∀ (l : List Sec) (k : Nat) (x : Sec) (v : Int), l[k]? = some x → (flat l).set (k * 3 + 1) (.int .i64 v) = flat (l.set k (x.1, v, x.2.2))
  | [], _, _, _, h => by simp at h
  | y :: l, 0, x, v, h => by
    simp at h; subst h
    simp [flat_consS]
  | y :: l, k + 1, x, v, h => by
    rw [flat_consS, show (k + 1) * 3 + 1 = k * 3 + 1 + 1 + 1 + 1 by omega]
    simp only [List.set_cons_succ]
    rw [flat_setS1 l k x v (by simpa using h), flat_consS]
theorem flat_setS2 : ∀ (l : List Sec) (k : Nat) (x : Sec) (v : Int), l[k]? = some x → (flat l).set (k * 3 + 2) (.int .i64 v) = flat (l.set k (x.1, x.2.1, v))
  | [], _, _, _, h => by simp at h
  | y :: l, 0, x, v, h => by
    simp at h; subst h
    simp [flat_consS]
  | y :: l, k + 1, x, v, h => by
    rw [flat_consS, show (k + 1) * 3 + 2 = k * 3 + 2 + 1 + 1 + 1 by omega]
    simp only [List.set_cons_succ]
    rw [flat_setS2 l k x v (by simpa using h), flat_consS]
theorem own_setS1 {w : World} {base : Nat} {e : TypeId} {n c g k : Nat} {l : List Sec} {x : Sec} (h : w.ownsRow base e 3 (.slice (some ⟨g, 0, none⟩) n c) n (flat l)) (hx : l[k]? = some x) (v : Int) :
    (w.setCell ⟨g, k * 3 + 1, none⟩ (.int .i64 v)).ownsRow base e 3 (.slice (some ⟨g, 0, none⟩) n c) n (flat (l.set k (x.1, v, x.2.2))) ∧ w.grownBy (w.setCell ⟨g, k * 3 + 1, none⟩ (.int .i64 v)) (some g) := by
  have h1 := World.ownsRow.stored h (k * 3 + 1) (.int .i64 v)
  rw [flat_setS1 l k x v hx] at h1
  exact h1
theorem own_setS2 {w : World} {base : Nat} {e : TypeId} {n c g k : Nat} {l : List Sec} {x : Sec} (h : w.ownsRow base e 3 (.slice (some ⟨g, 0, none⟩) n c) n (flat l)) (hx : l[k]? = some x) (v : Int) :
    (w.setCell ⟨g, k * 3 + 2, none⟩ (.int .i64 v)).ownsRow base e 3 (.slice (some ⟨g, 0, none⟩) n c) n (flat (l.set k (x.1, x.2.1, v))) ∧ w.grownBy (w.setCell ⟨g, k * 3 + 2, none⟩ (.int .i64 v)) (some g) := by
  have h1 := World.ownsRow.stored h (k * 3 + 2) (.int .i64 v)
  rw [flat_setS2 l k x v hx] at h1
  exact h1
/-- The cells of an element of an owned list. -/
theorem own_cellsS {w : World} {base : Nat} {e : TypeId} {c g k : Nat} {l : List Sec} {x : Sec} (h : w.ownsRow base e 3 (.slice (some ⟨g, 0, none⟩) l.length c) l.length (flat l)) (hx : l[k]? = some x) :
    w.cell? ⟨g, k * 3, none⟩ = some (.string x.1) ∧ w.cell? ⟨g, k * 3 + 1, none⟩ = some (.int .i64 x.2.1) ∧ w.cell? ⟨g, k * 3 + 2, none⟩ = some (.int .i64 x.2.2) := by
  have hr : Rd w (some ⟨g, 0, none⟩) l := own_rd (α := Sec) h
  obtain ⟨b, off, hae, _, c0, c1, c2⟩ := hr.getS hx
  simp only [Option.some.injEq, Addr.mk.injEq, and_true] at hae
  obtain ⟨rfl, rfl⟩ := hae
  exact ⟨by simpa using c0, by simpa using c1, by simpa using c2⟩

/-- One player of section f goes to section t. -/
def mvp (l : List Sec) (f t : Nat) : List Sec :=
  match l[f]?, l[t]? with
  | some x, some y => (l.set f (x.1, x.2.1 - 1, x.2.2)).set t (y.1, y.2.1 + 1, y.2.2)
  | _, _ => l
theorem mvp_at {l : List Sec} {f t : Nat} {x y : Sec} (hx : l[f]? = some x) (hy : l[t]? = some y) : mvp l f t = (l.set f (x.1, x.2.1 - 1, x.2.2)).set t (y.1, y.2.1 + 1, y.2.2) := by
  unfold mvp; rw [hx, hy]
theorem mvp_len (l : List Sec) (f t : Nat) : (mvp l f t).length = l.length := by
  unfold mvp; split <;> simp
abbrev MvpP (l : List Sec) (f t : Int) : Prop := HasP l f ∧ HasP l t ∧ f ≠ t ∧ ∀ x, l[f.toNat]? = some x → x.2.1 ≠ 1
open Classical in
noncomputable def mvpF (l : List Sec) (f t : Int) : List Sec × Bool := if MvpP l f t then (mvp l f.toNat t.toNat, true) else ([], false)
theorem mvpF_bad {l : List Sec} {f t : Int} (h : ¬MvpP l f t) : mvpF l f t = ([], false) := by unfold mvpF; rw [if_neg h]
theorem mvpF_good {l : List Sec} {f t : Nat} {x y : Sec} (h : MvpP l f t) (hx : l[f]? = some x) (hy : l[t]? = some y) : mvpF l f t = ((l.set f (x.1, x.2.1 - 1, x.2.2)).set t (y.1, y.2.1 + 1, y.2.2), true) := by
  unfold mvpF; rw [if_pos h]; simp [mvp_at hx hy]
theorem mvpF_len (l : List Sec) (f t : Int) : (mvpF l f t).1.length ≤ 1048576 := by
  unfold mvpF
  split
  · rename_i h
    have := h.1.1.2.2.1.2
    dsimp only
    rw [mvp_len]
    omega
  · simp

set_option maxHeartbeats 4000000 in
set_option maxRecDepth 100000 in
theorem s_MovePlayer (A : Option Addr) (c : Nat) (l : List Sec) (f t : Int) (w : World) (hl : l.length ≤ 1048576) (hz : ∀ x ∈ l, x.1.size ≤ 9223372036854775807) (hA : Rd w A l) (hlc : l.length ≤ c) :
    Calls Try.prog 26 #[.slice A l.length c, .int .i64 f, .int .i64 t] w fun e w' => ∃ A c, e = .returned (.tuple #[.slice A (mvpF l f t).1.length c, .bool (mvpF l f t).2]) ∧ w'.ownsRow w.heap.size 44 3 (.slice A ((mvpF l f t).1).length c) ((mvpF l f t).1).length (flat ((mvpF l f t).1)) ∧ Gw w w' := by
  have Hz := Lib.hid hz
  clear hz
  have HA := Lib.hid hA
  obtain ⟨i0, hi, hz0, hz1, hz2⟩ := info_parts infoSection
  go_enter Try.func26, Try.ntmps26
  go_wp2_with fail
  refine (s_seHas _ _ _ _ _ hl Hz.out (hA.gw (by (repeat (first | with_reducible exact Gw.refl _ | with_reducible assumption | ((with_reducible refine Gw.set ?_ ?_ _); rotate_left; (focus (first | (simp; done) | (simp; omega) | omega))) | with_reducible refine Gw.alloc ?_ _ | with_reducible refine Gw.drew ?_ | with_reducible refine Gw.drewN ?_ _ | (refine Gw.trans ?_ (by with_reducible assumption)))))) hlc).mono ?_
  rintro _ w1 (⟨hp, rfl, hb1⟩ | ⟨hp, rfl, hb1⟩)
  case inr =>
    have hno := Lib.hid (mvpF_bad (l := l) (f := f) (t := t) (fun h => hp h.1))
    clear hp
    go_wp2_with fail
    go_ret2
    exact ⟨none, 0, ret_lb (A := none) (c := 0) hno.out, by rw [hno.out]; exact World.ownsRow_nil _ _ _ _, by (repeat (first | with_reducible exact Gw.refl _ | with_reducible assumption | ((with_reducible refine Gw.set ?_ ?_ _); rotate_left; (focus (first | (simp; done) | (simp; omega) | omega))) | with_reducible refine Gw.alloc ?_ _ | with_reducible refine Gw.drew ?_ | with_reducible refine Gw.drewN ?_ _ | (refine Gw.trans ?_ (by with_reducible assumption))))⟩
  have HF := Lib.hid hp
  have hf := hp.2
  clear hp
  go_wp2_with fail
  refine (s_seHas _ _ _ _ _ hl Hz.out (hA.gw (by (repeat (first | with_reducible exact Gw.refl _ | with_reducible assumption | ((with_reducible refine Gw.set ?_ ?_ _); rotate_left; (focus (first | (simp; done) | (simp; omega) | omega))) | with_reducible refine Gw.alloc ?_ _ | with_reducible refine Gw.drew ?_ | with_reducible refine Gw.drewN ?_ _ | (refine Gw.trans ?_ (by with_reducible assumption)))))) hlc).mono ?_
  rintro _ w2 (⟨hp, rfl, hb2⟩ | ⟨hp, rfl, hb2⟩)
  case inr =>
    have hno := Lib.hid (mvpF_bad (l := l) (f := f) (t := t) (fun h => hp h.2.1))
    clear hp
    go_wp2_with fail
    go_ret2
    exact ⟨none, 0, ret_lb (A := none) (c := 0) hno.out, by rw [hno.out]; exact World.ownsRow_nil _ _ _ _, by (repeat (first | with_reducible exact Gw.refl _ | with_reducible assumption | ((with_reducible refine Gw.set ?_ ?_ _); rotate_left; (focus (first | (simp; done) | (simp; omega) | omega))) | with_reducible refine Gw.alloc ?_ _ | with_reducible refine Gw.drew ?_ | with_reducible refine Gw.drewN ?_ _ | (refine Gw.trans ?_ (by with_reducible assumption))))⟩
  have HT := Lib.hid hp
  have ht := hp.2
  clear hp
  have hG2 : Gw w w2 := by (repeat (first | with_reducible exact Gw.refl _ | with_reducible assumption | ((with_reducible refine Gw.set ?_ ?_ _); rotate_left; (focus (first | (simp; done) | (simp; omega) | omega))) | with_reducible refine Gw.alloc ?_ _ | with_reducible refine Gw.drew ?_ | with_reducible refine Gw.drewN ?_ _ | (refine Gw.trans ?_ (by with_reducible assumption))))
  obtain ⟨k, rfl⟩ : ∃ k : Nat, f = k := ⟨f.toNat, by omega⟩
  obtain ⟨m, rfl⟩ : ∃ m : Nat, t = m := ⟨t.toNat, by omega⟩
  by_cases hkm : k = m
  · have e1 : ((k : Int) == (m : Int)) = true := by simp [hkm]
    have hno := Lib.hid (mvpF_bad (l := l) (f := k) (t := m) (fun h => h.2.2.1 (by rw [hkm])))
    clear hkm
    go_wp2_with fail
    go_ret2
    exact ⟨none, 0, ret_lb (A := none) (c := 0) hno.out, by rw [hno.out]; exact World.ownsRow_nil _ _ _ _, by (repeat (first | with_reducible exact Gw.refl _ | with_reducible assumption | ((with_reducible refine Gw.set ?_ ?_ _); rotate_left; (focus (first | (simp; done) | (simp; omega) | omega))) | with_reducible refine Gw.alloc ?_ _ | with_reducible refine Gw.drew ?_ | with_reducible refine Gw.drewN ?_ _ | (refine Gw.trans ?_ (by with_reducible assumption))))⟩
  have e1 : ((k : Int) == (m : Int)) = false := by simp; omega
  obtain ⟨x, hx⟩ := get_of_lt (l := l) (k := k) (by omega)
  obtain ⟨y, hy⟩ := get_of_lt (l := l) (k := m) (by omega)
  have hxp := HF.out.1.size x (mem_of_get hx)
  have hyp := HF.out.1.size y (mem_of_get hy)
  obtain ⟨x1, x2, x3⟩ := x
  obtain ⟨y1, y2, y3⟩ := y
  obtain ⟨b, off, hae, hb, c0, c1, c2⟩ := (hA.gw hG2).getS hx
  subst hae
  dsimp only at c0 c1 c2 hxp hyp
  have Hx := Lib.hid hx
  have Hy := Lib.hid hy
  clear hx hy hA
  by_cases h1 : x2 = 1
  · have e2 : (x2 == 1) = true := by simp [h1]
    have hno := Lib.hid (mvpF_bad (l := l) (f := k) (t := m) (fun h => h.2.2.2 (x1, x2, x3) (by rw [Int.toNat_natCast]; exact Hx.out) h1))
    clear h1
    go_wp2_with fail
    go_ret2
    exact ⟨none, 0, ret_lb (A := none) (c := 0) hno.out, by rw [hno.out]; exact World.ownsRow_nil _ _ _ _, by (repeat (first | with_reducible exact Gw.refl _ | with_reducible assumption | ((with_reducible refine Gw.set ?_ ?_ _); rotate_left; (focus (first | (simp; done) | (simp; omega) | omega))) | with_reducible refine Gw.alloc ?_ _ | with_reducible refine Gw.drew ?_ | with_reducible refine Gw.drewN ?_ _ | (refine Gw.trans ?_ (by with_reducible assumption))))⟩
  have e2 : (x2 == 1) = false := by simp [h1]
  have hv := Lib.hid (mvpF_good (l := l) (f := k) (t := m) ⟨HF.out, HT.out, by omega, fun x hx => by rw [Int.toNat_natCast, Hx.out] at hx; cases hx; exact h1⟩ Hx.out Hy.out)
  dsimp only at hv
  have hkl : k < l.length := by omega
  have hml : m < l.length := by omega
  have hne1 : ¬(k * 3 + 1 = m * 3 + 1) := by omega
  have hne2 : ¬(m * 3 + 1 = k * 3 + 1) := by omega
  have hl10 := HF.out.1.2.2.1.2
  clear h1
  go_wp2_with ((at_builtin; refine wpList_catAny (α := Sec) rfl (.tmp 32) (.tmp 33) 27 rfl w2.heap.size 44 i0 _ 32 Try.underlying27 hi hz0 hz1 hz2 rfl (by omega) [] (some ⟨w2.heap.size, 0, none⟩) 0 rfl l l.length rfl (some ⟨b, off, none⟩) c rfl (HA.out.gw (by (repeat (first | with_reducible exact Gw.refl _ | with_reducible assumption | ((with_reducible refine Gw.set ?_ ?_ _); rotate_left; (focus (first | (simp; done) | (simp; omega) | omega))) | with_reducible refine Gw.alloc ?_ _ | with_reducible refine Gw.drew ?_ | with_reducible refine Gw.drewN ?_ _ | (refine Gw.trans ?_ (by with_reducible assumption)))))) (World.ownsRow_made w2 #[] 0 (Nat.le_refl _) (by simp [maxLen]) (by simp)) (by simp) (by omega) (by simp) ?_; intro acc' A' c' w4 hacc' hl1 hown hgg); have he : l = acc' := (by rw [hacc'.out, List.nil_append]); subst he; have hb4 : Gw w2 w4 := hgg w2 (by (repeat (first | with_reducible exact Gw.refl _ | with_reducible assumption | ((with_reducible refine Gw.set ?_ ?_ _); rotate_left; (focus (first | (simp; done) | (simp; omega) | omega))) | with_reducible refine Gw.alloc ?_ _ | with_reducible refine Gw.drew ?_ | with_reducible refine Gw.drewN ?_ _ | (refine Gw.trans ?_ (by with_reducible assumption))))) (Nat.le_refl _); have hown : w4.ownsRow w2.heap.size 44 3 (.slice A' l.length c') l.length (flat l) := hown; clear hgg hacc' hl1; have hG4 : Gw w w4 := Gw.trans hG2 hb4; have hz4 := hb4.size; (try simp at hz4); obtain ⟨g, rfl, hbg, hg⟩ := own_addr hown (by omega); obtain ⟨-, n1, -⟩ := own_cellsS hown Hx.out; obtain ⟨-, m1, -⟩ := own_cellsS hown Hy.out; dsimp only at n1 m1; have fz0 := World.ownsRow.frozenAt hown (k * 3 + 1); have fz1 := World.ownsRow.frozenAt hown (m * 3 + 1))
  have r1 := own_setS1 hown Hx.out (x2 - 1)
  have r2 := own_setS1 (k := m) (x := (y1, y2, y3)) r1.1 (by rw [List.getElem?_set_ne (by omega)]; exact Hy.out) (y2 + 1)
  go_ret2
  refine ⟨some ⟨g, 0, none⟩, c', by rw [hv.out]; simp only [List.length_set]; rfl, ?_, ?_⟩
  · rw [hv.out]; simp only [List.length_set]; exact own_lower r2.1 (by have := hG2.size; omega)
  · exact hG4.grown (grownBy_trans r1.2 r2.2) (fun k hk => by have := hG2.size; simp at hk; omega)
set_option maxHeartbeats 4000000 in
set_option maxRecDepth 100000 in
theorem i_MovePlayer (A : Option Addr) (c : Nat) (l : List Sec) (f t : Int) (w : World) (hl : l.length ≤ 1048576) (hz : ∀ x ∈ l, x.1.size ≤ 9223372036854775807) (hA : Rd w A l) (hlc : l.length ≤ c) :
    Calls Try.prog 25 #[.slice A l.length c, .int .i64 f, .int .i64 t] w fun e w' => ∃ A c, e = .returned (.tuple #[.slice A (mvpF l f t).1.length c, .bool (mvpF l f t).2]) ∧ w'.ownsRow w.heap.size 44 3 (.slice A ((mvpF l f t).1).length c) ((mvpF l f t).1).length (flat ((mvpF l f t).1)) ∧ Gw w w' := by
  have Hz := Lib.hid hz
  clear hz
  have HA := Lib.hid hA
  obtain ⟨i0, hi, hz0, hz1, hz2⟩ := info_parts infoSection
  go_enter Try.func25, Try.ntmps25
  go_wp2_with fail
  refine (i_isSection _ _ _ _ _ hl Hz.out (hA.gw (by (repeat (first | with_reducible exact Gw.refl _ | with_reducible assumption | ((with_reducible refine Gw.set ?_ ?_ _); rotate_left; (focus (first | (simp; done) | (simp; omega) | omega))) | with_reducible refine Gw.alloc ?_ _ | with_reducible refine Gw.drew ?_ | with_reducible refine Gw.drewN ?_ _ | (refine Gw.trans ?_ (by with_reducible assumption)))))) hlc).mono ?_
  rintro _ w1 (⟨hp, rfl, hb1⟩ | ⟨hp, rfl, hb1⟩)
  case inr =>
    have hno := Lib.hid (mvpF_bad (l := l) (f := f) (t := t) (fun h => hp h.1))
    clear hp
    go_wp2_with fail
    go_ret2
    exact ⟨none, 0, ret_lb (A := none) (c := 0) hno.out, by rw [hno.out]; exact World.ownsRow_nil _ _ _ _, by (repeat (first | with_reducible exact Gw.refl _ | with_reducible assumption | ((with_reducible refine Gw.set ?_ ?_ _); rotate_left; (focus (first | (simp; done) | (simp; omega) | omega))) | with_reducible refine Gw.alloc ?_ _ | with_reducible refine Gw.drew ?_ | with_reducible refine Gw.drewN ?_ _ | (refine Gw.trans ?_ (by with_reducible assumption))))⟩
  have HF := Lib.hid hp
  have hf := hp.2
  clear hp
  go_wp2_with fail
  refine (i_isSection _ _ _ _ _ hl Hz.out (hA.gw (by (repeat (first | with_reducible exact Gw.refl _ | with_reducible assumption | ((with_reducible refine Gw.set ?_ ?_ _); rotate_left; (focus (first | (simp; done) | (simp; omega) | omega))) | with_reducible refine Gw.alloc ?_ _ | with_reducible refine Gw.drew ?_ | with_reducible refine Gw.drewN ?_ _ | (refine Gw.trans ?_ (by with_reducible assumption)))))) hlc).mono ?_
  rintro _ w2 (⟨hp, rfl, hb2⟩ | ⟨hp, rfl, hb2⟩)
  case inr =>
    have hno := Lib.hid (mvpF_bad (l := l) (f := f) (t := t) (fun h => hp h.2.1))
    clear hp
    go_wp2_with fail
    go_ret2
    exact ⟨none, 0, ret_lb (A := none) (c := 0) hno.out, by rw [hno.out]; exact World.ownsRow_nil _ _ _ _, by (repeat (first | with_reducible exact Gw.refl _ | with_reducible assumption | ((with_reducible refine Gw.set ?_ ?_ _); rotate_left; (focus (first | (simp; done) | (simp; omega) | omega))) | with_reducible refine Gw.alloc ?_ _ | with_reducible refine Gw.drew ?_ | with_reducible refine Gw.drewN ?_ _ | (refine Gw.trans ?_ (by with_reducible assumption))))⟩
  have HT := Lib.hid hp
  have ht := hp.2
  clear hp
  have hG2 : Gw w w2 := by (repeat (first | with_reducible exact Gw.refl _ | with_reducible assumption | ((with_reducible refine Gw.set ?_ ?_ _); rotate_left; (focus (first | (simp; done) | (simp; omega) | omega))) | with_reducible refine Gw.alloc ?_ _ | with_reducible refine Gw.drew ?_ | with_reducible refine Gw.drewN ?_ _ | (refine Gw.trans ?_ (by with_reducible assumption))))
  obtain ⟨k, rfl⟩ : ∃ k : Nat, f = k := ⟨f.toNat, by omega⟩
  obtain ⟨m, rfl⟩ : ∃ m : Nat, t = m := ⟨t.toNat, by omega⟩
  by_cases hkm : k = m
  · have e1 : ((k : Int) == (m : Int)) = true := by simp [hkm]
    have hno := Lib.hid (mvpF_bad (l := l) (f := k) (t := m) (fun h => h.2.2.1 (by rw [hkm])))
    clear hkm
    go_wp2_with fail
    go_ret2
    exact ⟨none, 0, ret_lb (A := none) (c := 0) hno.out, by rw [hno.out]; exact World.ownsRow_nil _ _ _ _, by (repeat (first | with_reducible exact Gw.refl _ | with_reducible assumption | ((with_reducible refine Gw.set ?_ ?_ _); rotate_left; (focus (first | (simp; done) | (simp; omega) | omega))) | with_reducible refine Gw.alloc ?_ _ | with_reducible refine Gw.drew ?_ | with_reducible refine Gw.drewN ?_ _ | (refine Gw.trans ?_ (by with_reducible assumption))))⟩
  have e1 : ((k : Int) == (m : Int)) = false := by simp; omega
  obtain ⟨x, hx⟩ := get_of_lt (l := l) (k := k) (by omega)
  obtain ⟨y, hy⟩ := get_of_lt (l := l) (k := m) (by omega)
  have hxp := HF.out.1.size x (mem_of_get hx)
  have hyp := HF.out.1.size y (mem_of_get hy)
  obtain ⟨x1, x2, x3⟩ := x
  obtain ⟨y1, y2, y3⟩ := y
  obtain ⟨b, off, hae, hb, c0, c1, c2⟩ := (hA.gw hG2).getS hx
  subst hae
  dsimp only at c0 c1 c2 hxp hyp
  have Hx := Lib.hid hx
  have Hy := Lib.hid hy
  clear hx hy hA
  by_cases h1 : x2 = 1
  · have e2 : (x2 == 1) = true := by simp [h1]
    have hno := Lib.hid (mvpF_bad (l := l) (f := k) (t := m) (fun h => h.2.2.2 (x1, x2, x3) (by rw [Int.toNat_natCast]; exact Hx.out) h1))
    clear h1
    go_wp2_with fail
    go_ret2
    exact ⟨none, 0, ret_lb (A := none) (c := 0) hno.out, by rw [hno.out]; exact World.ownsRow_nil _ _ _ _, by (repeat (first | with_reducible exact Gw.refl _ | with_reducible assumption | ((with_reducible refine Gw.set ?_ ?_ _); rotate_left; (focus (first | (simp; done) | (simp; omega) | omega))) | with_reducible refine Gw.alloc ?_ _ | with_reducible refine Gw.drew ?_ | with_reducible refine Gw.drewN ?_ _ | (refine Gw.trans ?_ (by with_reducible assumption))))⟩
  have e2 : (x2 == 1) = false := by simp [h1]
  have hv := Lib.hid (mvpF_good (l := l) (f := k) (t := m) ⟨HF.out, HT.out, by omega, fun x hx => by rw [Int.toNat_natCast, Hx.out] at hx; cases hx; exact h1⟩ Hx.out Hy.out)
  dsimp only at hv
  have hkl : k < l.length := by omega
  have hml : m < l.length := by omega
  have hne1 : ¬(k * 3 + 1 = m * 3 + 1) := by omega
  have hne2 : ¬(m * 3 + 1 = k * 3 + 1) := by omega
  have hl10 := HF.out.1.2.2.1.2
  clear h1
  go_wp2_with ((at_builtin; refine wpList_catAny (α := Sec) rfl (.tmp 32) (.tmp 33) 27 rfl w2.heap.size 44 i0 _ 32 Try.underlying27 hi hz0 hz1 hz2 rfl (by omega) [] (some ⟨w2.heap.size, 0, none⟩) 0 rfl l l.length rfl (some ⟨b, off, none⟩) c rfl (HA.out.gw (by (repeat (first | with_reducible exact Gw.refl _ | with_reducible assumption | ((with_reducible refine Gw.set ?_ ?_ _); rotate_left; (focus (first | (simp; done) | (simp; omega) | omega))) | with_reducible refine Gw.alloc ?_ _ | with_reducible refine Gw.drew ?_ | with_reducible refine Gw.drewN ?_ _ | (refine Gw.trans ?_ (by with_reducible assumption)))))) (World.ownsRow_made w2 #[] 0 (Nat.le_refl _) (by simp [maxLen]) (by simp)) (by simp) (by omega) (by simp) ?_; intro acc' A' c' w4 hacc' hl1 hown hgg); have he : l = acc' := (by rw [hacc'.out, List.nil_append]); subst he; have hb4 : Gw w2 w4 := hgg w2 (by (repeat (first | with_reducible exact Gw.refl _ | with_reducible assumption | ((with_reducible refine Gw.set ?_ ?_ _); rotate_left; (focus (first | (simp; done) | (simp; omega) | omega))) | with_reducible refine Gw.alloc ?_ _ | with_reducible refine Gw.drew ?_ | with_reducible refine Gw.drewN ?_ _ | (refine Gw.trans ?_ (by with_reducible assumption))))) (Nat.le_refl _); have hown : w4.ownsRow w2.heap.size 44 3 (.slice A' l.length c') l.length (flat l) := hown; clear hgg hacc' hl1; have hG4 : Gw w w4 := Gw.trans hG2 hb4; have hz4 := hb4.size; (try simp at hz4); obtain ⟨g, rfl, hbg, hg⟩ := own_addr hown (by omega); obtain ⟨-, n1, -⟩ := own_cellsS hown Hx.out; obtain ⟨-, m1, -⟩ := own_cellsS hown Hy.out; dsimp only at n1 m1; have fz0 := World.ownsRow.frozenAt hown (k * 3 + 1); have fz1 := World.ownsRow.frozenAt hown (m * 3 + 1))
  have r1 := own_setS1 hown Hx.out (x2 - 1)
  have r2 := own_setS1 (k := m) (x := (y1, y2, y3)) r1.1 (by rw [List.getElem?_set_ne (by omega)]; exact Hy.out) (y2 + 1)
  go_ret2
  refine ⟨some ⟨g, 0, none⟩, c', by rw [hv.out]; simp only [List.length_set]; rfl, ?_, ?_⟩
  · rw [hv.out]; simp only [List.length_set]; exact own_lower r2.1 (by have := hG2.size; omega)
  · exact hG4.grown (grownBy_trans r1.2 r2.2) (fun k hk => by have := hG2.size; simp at hk; omega)
end Go.Proofs.Ytopaekijhkfhpaa
