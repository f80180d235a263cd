/-
  Sections: two that are joined.
-/
import Derived.Test.YtopaekijhkfhpaaSecC
import Derived.Test.YtopaekijhkfhpaaStep
import Derived.Test.YtopaekijhkfhpaaDel
namespace Go.Proofs.Ytopaekijhkfhpaa
open Go.RowKit

theorem own_cellsN {w : World} {base : Nat} {e : TypeId} {n c g k : Nat} {l : List Sec} {x : Sec} (h : w.ownsRow base e 3 (.slice (some ⟨g, 0, none⟩) n c) n (flat l)) (hn : l.length = n) (hx : l[k]? = some x) :
    w.cell? ⟨g, k * 3, none⟩ = some (.string x.1) ∧ w.cell? ⟨g, k * 3 + 1, none⟩ = some (.int .i64 x.2.1) ∧ w.cell? ⟨g, k * 3 + 2, none⟩ = some (.int .i64 x.2.2) := by
  subst hn; exact own_cellsS h hx
theorem ret_lbn {α : Type} {k : List α × Bool} {A : Option Addr} {c n : Nat} {l : List α} {b : Bool} (h : k = (l, b)) (hn : l.length = n) : Ending.returned (.tuple #[.slice A n c, .bool b]) = .returned (.tuple #[.slice A k.1.length c, .bool k.2]) := by rw [h, ← hn]
theorem own_renum {w : World} {base : Nat} {e : TypeId} {size n n' c : Nat} {A : Option Addr} {xs : List Value} (h : w.ownsRow base e size (.slice A n c) n xs) (hn : n = n') : w.ownsRow base e size (.slice A n' c) n' xs := by subst hn; exact h
theorem mix_bd {a b c d : Int} (ha : 1 ≤ a) (hb : 1 ≤ b) (h1 : 0 ≤ a * c ∧ a * c ≤ 6000) (h2 : 0 ≤ b * d ∧ b * d ≤ 6000) : 0 ≤ (a * c + b * d) / (a + b) ∧ (a * c + b * d) / (a + b) ≤ 12000 ∧ Int.tdiv (a * c + b * d) (a + b) = (a * c + b * d) / (a + b) := by
  have h0 : 0 ≤ a * c + b * d := by omega
  refine ⟨Int.ediv_nonneg h0 (by omega), ?_, Int.tdiv_eq_ediv_of_nonneg h0⟩
  have := Int.ediv_le_self (a + b) h0
  omega
/-- What becomes of two sections that are joined. -/
def mixS (x y : Sec) : Sec := (x.1, x.2.1 + y.2.1, (x.2.1 * x.2.2 + y.2.1 * y.2.2) / (x.2.1 + y.2.1))
def joinS (l : List Sec) (i k : Nat) : List Sec :=
  match l[i]?, l[k]? with
  | some x, some y => (l.set i (mixS x y)).eraseIdx k
  | _, _ => l
theorem joinS_at {l : List Sec} {i k : Nat} {x y : Sec} (hx : l[i]? = some x) (hy : l[k]? = some y) : joinS l i k = (l.set i (mixS x y)).take k ++ (l.set i (mixS x y)).drop (k + 1) := by
  unfold joinS; rw [hx, hy]; exact List.eraseIdx_eq_take_drop_succ ..
abbrev JoinP (l : List Sec) (i k : Int) : Prop := HasP l i ∧ HasP l k ∧ i ≠ k
open Classical in
noncomputable def joinF (l : List Sec) (i k : Int) : List Sec × Bool := if JoinP l i k then (joinS l i.toNat k.toNat, true) else ([], false)
theorem joinF_bad {l : List Sec} {i k : Int} (h : ¬JoinP l i k) : joinF l i k = ([], false) := by unfold joinF; rw [if_neg h]
theorem joinF_good {l : List Sec} {i k : Nat} {x y : Sec} (h : JoinP l i k) (hx : l[i]? = some x) (hy : l[k]? = some y) : joinF l i k = ((l.set i (mixS x y)).take k ++ (l.set i (mixS x y)).drop (k + 1), true) := by
  unfold joinF; rw [if_pos h]; simp [joinS_at hx hy]
theorem joinS_len (l : List Sec) (i k : Nat) : (joinS l i k).length ≤ l.length := by
  unfold joinS
  split
  · exact Nat.le_trans (List.length_eraseIdx_le _ _) (by simp)
  · exact Nat.le_refl _
theorem joinF_len (l : List Sec) (i k : Int) : (joinF l i k).1.length ≤ 1048576 := by
  unfold joinF
  split
  · rename_i h
    have := h.1.1.2.2.1.2
    have := joinS_len l i.toNat k.toNat
    dsimp only
    omega
  · simp


set_option maxHeartbeats 4000000 in
set_option maxRecDepth 100000 in
theorem s_JoinSections (A : Option Addr) (c : Nat) (l : List Sec) (f t : Int) (w : World) (hl : l.length ≤ 1048576) (hz : ∀ x ∈ l, x.1.size ≤ 9223372036854775807) (hA : Rd w A l) (hlc : l.length ≤ c) :
    Calls Try.prog 32 #[.slice A l.length c, .int .i64 f, .int .i64 t] w fun e w' => ∃ A c, e = .returned (.tuple #[.slice A (joinF l f t).1.length c, .bool (joinF l f t).2]) ∧ w'.ownsRow w.heap.size 44 3 (.slice A ((joinF l f t).1).length c) ((joinF l f t).1).length (flat ((joinF l f t).1)) ∧ Gw w w' := by
  have Hz := Lib.hid hz
  clear hz
  have HA := Lib.hid hA
  obtain ⟨i0, hi, hz0, hz1, hz2⟩ := info_parts infoSection
  go_enter Try.func32, Try.ntmps32
  go_wp2_with fail
  refine (s_seHas _ _ _ _ _ hl Hz.out (hA.gw (by (repeat (first | with_reducible exact Gw.refl _ | with_reducible assumption | ((with_reducible refine Gw.set ?_ ?_ _); rotate_left; (focus (first | (simp; done) | (simp; omega) | omega))) | with_reducible refine Gw.alloc ?_ _ | with_reducible refine Gw.drew ?_ | with_reducible refine Gw.drewN ?_ _ | (refine Gw.trans ?_ (by with_reducible assumption)))))) hlc).mono ?_
  rintro _ w1 (⟨hp, rfl, hb1⟩ | ⟨hp, rfl, hb1⟩)
  case inr =>
    have hno := Lib.hid (joinF_bad (l := l) (i := f) (k := t) (fun h => hp h.1))
    clear hp
    go_wp2_with fail
    go_ret2
    exact ⟨none, 0, ret_lb (A := none) (c := 0) hno.out, by rw [hno.out]; exact World.ownsRow_nil _ _ _ _, by (repeat (first | with_reducible exact Gw.refl _ | with_reducible assumption | ((with_reducible refine Gw.set ?_ ?_ _); rotate_left; (focus (first | (simp; done) | (simp; omega) | omega))) | with_reducible refine Gw.alloc ?_ _ | with_reducible refine Gw.drew ?_ | with_reducible refine Gw.drewN ?_ _ | (refine Gw.trans ?_ (by with_reducible assumption))))⟩
  have HF := Lib.hid hp
  have hf := hp.2
  clear hp
  go_wp2_with fail
  refine (s_seHas _ _ _ _ _ hl Hz.out (hA.gw (by (repeat (first | with_reducible exact Gw.refl _ | with_reducible assumption | ((with_reducible refine Gw.set ?_ ?_ _); rotate_left; (focus (first | (simp; done) | (simp; omega) | omega))) | with_reducible refine Gw.alloc ?_ _ | with_reducible refine Gw.drew ?_ | with_reducible refine Gw.drewN ?_ _ | (refine Gw.trans ?_ (by with_reducible assumption)))))) hlc).mono ?_
  rintro _ w2 (⟨hp, rfl, hb2⟩ | ⟨hp, rfl, hb2⟩)
  case inr =>
    have hno := Lib.hid (joinF_bad (l := l) (i := f) (k := t) (fun h => hp h.2.1))
    clear hp
    go_wp2_with fail
    go_ret2
    exact ⟨none, 0, ret_lb (A := none) (c := 0) hno.out, by rw [hno.out]; exact World.ownsRow_nil _ _ _ _, by (repeat (first | with_reducible exact Gw.refl _ | with_reducible assumption | ((with_reducible refine Gw.set ?_ ?_ _); rotate_left; (focus (first | (simp; done) | (simp; omega) | omega))) | with_reducible refine Gw.alloc ?_ _ | with_reducible refine Gw.drew ?_ | with_reducible refine Gw.drewN ?_ _ | (refine Gw.trans ?_ (by with_reducible assumption))))⟩
  have HT := Lib.hid hp
  have ht := hp.2
  clear hp
  have hG2 : Gw w w2 := by (repeat (first | with_reducible exact Gw.refl _ | with_reducible assumption | ((with_reducible refine Gw.set ?_ ?_ _); rotate_left; (focus (first | (simp; done) | (simp; omega) | omega))) | with_reducible refine Gw.alloc ?_ _ | with_reducible refine Gw.drew ?_ | with_reducible refine Gw.drewN ?_ _ | (refine Gw.trans ?_ (by with_reducible assumption))))
  obtain ⟨k, rfl⟩ : ∃ k : Nat, f = k := ⟨f.toNat, by omega⟩
  obtain ⟨m, rfl⟩ : ∃ m : Nat, t = m := ⟨t.toNat, by omega⟩
  by_cases hkm : k = m
  · have e1 : ((k : Int) == (m : Int)) = true := by simp [hkm]
    have hno := Lib.hid (joinF_bad (l := l) (i := k) (k := m) (fun h => h.2.2 (by rw [hkm])))
    clear hkm
    go_wp2_with fail
    go_ret2
    exact ⟨none, 0, ret_lb (A := none) (c := 0) hno.out, by rw [hno.out]; exact World.ownsRow_nil _ _ _ _, by (repeat (first | with_reducible exact Gw.refl _ | with_reducible assumption | ((with_reducible refine Gw.set ?_ ?_ _); rotate_left; (focus (first | (simp; done) | (simp; omega) | omega))) | with_reducible refine Gw.alloc ?_ _ | with_reducible refine Gw.drew ?_ | with_reducible refine Gw.drewN ?_ _ | (refine Gw.trans ?_ (by with_reducible assumption))))⟩
  have e1 : ((k : Int) == (m : Int)) = false := by simp; omega
  obtain ⟨x, hx⟩ := get_of_lt (l := l) (k := k) (by omega)
  obtain ⟨y, hy⟩ := get_of_lt (l := l) (k := m) (by omega)
  have hxp := HF.out.1.1 x (mem_of_get hx)
  have hyp := HF.out.1.1 y (mem_of_get hy)
  have hxb := hxp.2.1
  have hyb := hyp.2.1
  obtain ⟨x1, x2, x3⟩ := x
  obtain ⟨y1, y2, y3⟩ := y
  have hxm : 0 ≤ x2 * x3 ∧ x2 * x3 ≤ 6000 := loud_bd hxp
  have hym : 0 ≤ y2 * y3 ∧ y2 * y3 ≤ 6000 := loud_bd hyp
  obtain ⟨b, off, hae, hb, c0, c1, c2⟩ := (hA.gw hG2).getS hx
  subst hae
  obtain ⟨b', off', hae, hb', d0, d1, d2⟩ := (hA.gw hG2).getS hy
  simp only [Option.some.injEq, Addr.mk.injEq, and_true] at hae
  obtain ⟨rfl, rfl⟩ := hae
  dsimp only at c0 c1 c2 hxb hyb d0 d1 d2
  have Hx := Lib.hid hx
  have Hy := Lib.hid hy
  clear hx hy hA hxp hyp c0 d0
  have hv := Lib.hid (joinF_good (l := l) (i := k) (k := m) ⟨HF.out, HT.out, by omega⟩ Hx.out Hy.out)
  unfold mixS at hv
  dsimp only at hv
  have hkl : k < l.length := by omega
  have hml : m < l.length := by omega
  have hl10 := HF.out.1.2.2.1.2
  go_wp2_with ((at_builtin; refine wpList_catAny (α := Sec) rfl (.tmp 24) (.tmp 25) 27 rfl w2.heap.size 44 i0 _ 32 Try.underlying27 hi hz0 hz1 hz2 rfl (by omega) [] (some ⟨w2.heap.size, 0, none⟩) 0 rfl l l.length rfl (some ⟨b, off, none⟩) c rfl (HA.out.gw (by (repeat (first | with_reducible exact Gw.refl _ | with_reducible assumption | ((with_reducible refine Gw.set ?_ ?_ _); rotate_left; (focus (first | (simp; done) | (simp; omega) | omega))) | with_reducible refine Gw.alloc ?_ _ | with_reducible refine Gw.drew ?_ | with_reducible refine Gw.drewN ?_ _ | (refine Gw.trans ?_ (by with_reducible assumption)))))) (World.ownsRow_made w2 #[] 0 (Nat.le_refl _) (by simp [maxLen]) (by simp)) (by simp) (by omega) (by simp) ?_; intro acc' A' c' w4 hacc' hl1 hown hgg); have he : l = acc' := (by rw [hacc'.out, List.nil_append]); subst he; have hb4 : Gw w2 w4 := hgg w2 (by (repeat (first | with_reducible exact Gw.refl _ | with_reducible assumption | ((with_reducible refine Gw.set ?_ ?_ _); rotate_left; (focus (first | (simp; done) | (simp; omega) | omega))) | with_reducible refine Gw.alloc ?_ _ | with_reducible refine Gw.drew ?_ | with_reducible refine Gw.drewN ?_ _ | (refine Gw.trans ?_ (by with_reducible assumption))))) (Nat.le_refl _); have hown : w4.ownsRow w2.heap.size 44 3 (.slice A' l.length c') l.length (flat l) := hown; clear hgg hacc' hl1; have hG4 : Gw w w4 := Gw.trans hG2 hb4; have hz4 := hb4.size; (try simp at hz4); obtain ⟨g, rfl, hbg, hg⟩ := own_addr hown (by omega))
  have q1 : w4.cell? ⟨b, off + k * 3 + 1, none⟩ = some (.int .i64 x2) := by rw [hb4.cells _ _ hb]; exact c1
  have q2 : w4.cell? ⟨b, off + k * 3 + 2, none⟩ = some (.int .i64 x3) := by rw [hb4.cells _ _ hb]; exact c2
  have p1 : w4.cell? ⟨b, off + m * 3 + 1, none⟩ = some (.int .i64 y2) := by rw [hb4.cells _ _ hb]; exact d1
  have p2 : w4.cell? ⟨b, off + m * 3 + 2, none⟩ = some (.int .i64 y3) := by rw [hb4.cells _ _ hb]; exact d2
  clear c1 c2 d1 d2
  have o1 := (own_cellsS hown Hx.out).2.1
  have o2 := (own_cellsS hown Hx.out).2.2
  dsimp only at o1 o2
  have fz1 := World.ownsRow.frozenAt hown (k * 3 + 1)
  have fz2 := World.ownsRow.frozenAt hown (k * 3 + 2)
  have bk0 : (0 : Int) ≤ (k : Int) := by omega
  have bk1 : (k : Int) < (l.length : Int) := by omega
  have bm0 : (0 : Int) ≤ (m : Int) := by omega
  have bm1 : (m : Int) < (l.length : Int) := by omega
  have sw : IntKind.i64.wrap (x2 + y2) = x2 + y2 := IntWalk.i64_in _ (by omega)
  have hbg2 : ¬(b = g) := by omega
  have hbg3 : ¬(g = b) := by omega
  have hks : ∀ (v : Value), ((w4.setCell ⟨g, k * 3 + 1, none⟩ v).drew.cell? ⟨b, off + k * 3 + 1, none⟩ = some (.int .i64 x2) ∧ (w4.setCell ⟨g, k * 3 + 1, none⟩ v).drew.cell? ⟨b, off + m * 3 + 1, none⟩ = some (.int .i64 y2)) := fun v =>
    ⟨(World.cell?_setCell_other w4 ⟨g, k * 3 + 1, none⟩ ⟨b, off + k * 3 + 1, none⟩ v (by simp; try omega)).trans q1, (World.cell?_setCell_other w4 ⟨g, k * 3 + 1, none⟩ ⟨b, off + m * 3 + 1, none⟩ v (by simp; try omega)).trans p1⟩
  have Hks := Lib.hid hks
  clear hks
  go_region_held3 (fun u => u.cell? ⟨b, off + k * 3 + 1, none⟩ = some (.int .i64 x2) ∧ u.cell? ⟨b, off + m * 3 + 1, none⟩ = some (.int .i64 y2)) (first | exact Hks.out _ | go_keep) (first | fail)
  go_wp2_with fail
  have r1 := own_setS1 hown Hx.out (x2 + y2)
  have hown5 : ((w4.setCell ⟨g, k * 3 + 1, none⟩ (.int .i64 (x2 + y2))).drew).ownsRow w2.heap.size 44 3 (.slice (some ⟨g, 0, none⟩) l.length c') l.length (flat (l.set k (x1, x2 + y2, x3))) := r1.1.drew
  have hG5 : Gw w (w4.setCell ⟨g, k * 3 + 1, none⟩ (.int .i64 (x2 + y2))).drew := (hG4.grown r1.2 (fun k hk => by have := hG2.size; simp at hk; omega)).drew
  have hG25 : Gw w2 (w4.setCell ⟨g, k * 3 + 1, none⟩ (.int .i64 (x2 + y2))).drew := (hb4.grown r1.2 (fun k hk => by simp at hk; omega)).drew
  have q1' := (Hks.out (.int .i64 (x2 + y2))).1
  have p1' := (Hks.out (.int .i64 (x2 + y2))).2
  have q2' : (w4.setCell ⟨g, k * 3 + 1, none⟩ (.int .i64 (x2 + y2))).drew.cell? ⟨b, off + k * 3 + 2, none⟩ = some (.int .i64 x3) := (World.cell?_setCell_other w4 ⟨g, k * 3 + 1, none⟩ ⟨b, off + k * 3 + 2, none⟩ _ (by simp; try omega)).trans q2
  have p2' : (w4.setCell ⟨g, k * 3 + 1, none⟩ (.int .i64 (x2 + y2))).drew.cell? ⟨b, off + m * 3 + 2, none⟩ = some (.int .i64 y3) := (World.cell?_setCell_other w4 ⟨g, k * 3 + 1, none⟩ ⟨b, off + m * 3 + 2, none⟩ _ (by simp; try omega)).trans p2
  clear q1 q2 p1 p2 o1 o2 fz1 fz2 Hks hown r1
  generalize (w4.setCell ⟨g, k * 3 + 1, none⟩ (.int .i64 (x2 + y2))).drew = w5 at *
  have Hx5 : Hid ((l.set k (x1, x2 + y2, x3))[k]? = some (x1, x2 + y2, x3)) := by unfold Hid; simp [hkl]
  have a1 := (own_cellsN hown5 (by simp) Hx5.out).2.1
  have a2 := (own_cellsN hown5 (by simp) Hx5.out).2.2
  dsimp only at a1 a2
  have fz2 := World.ownsRow.frozenAt hown5 (k * 3 + 2)
  obtain ⟨md1, md2, md3⟩ := mix_bd (a := x2) (b := y2) (c := x3) (d := y3) hxb.1 hyb.1 hxm hym
  obtain ⟨N, hN⟩ : ∃ N, N = x2 * x3 + y2 * y3 := ⟨_, rfl⟩
  have sw1 : IntKind.i64.wrap (x2 * x3) = x2 * x3 := IntWalk.i64_in _ (by omega)
  have sw2 : IntKind.i64.wrap (y2 * y3) = y2 * y3 := IntWalk.i64_in _ (by omega)
  have sw3 : IntKind.i64.wrap (x2 * x3 + y2 * y3) = x2 * x3 + y2 * y3 := IntWalk.i64_in _ (by omega)
  have sw4 : IntKind.i64.wrap ((x2 * x3 + y2 * y3).tdiv (x2 + y2)) = (x2 * x3 + y2 * y3) / (x2 + y2) := by rw [md3]; exact IntWalk.i64_in _ (by omega)
  have sw5 : IntKind.i64.wrap ((x2 * x3 + y2 * y3) / (x2 + y2)) = (x2 * x3 + y2 * y3) / (x2 + y2) := IntWalk.i64_in _ (by omega)
  have nz1 : ¬(x2 + y2 = 0) := by omega
  have nz2 : (x2 + y2 == 0) = false := by simp; omega
  clear hN sw
  have hks : ∀ (v : Value), ((w5.setCell ⟨g, k * 3 + 2, none⟩ v).drew.cell? ⟨b, off + k * 3 + 1, none⟩ = some (.int .i64 x2) ∧ (w5.setCell ⟨g, k * 3 + 2, none⟩ v).drew.cell? ⟨b, off + m * 3 + 1, none⟩ = some (.int .i64 y2) ∧
      (w5.setCell ⟨g, k * 3 + 2, none⟩ v).drew.cell? ⟨b, off + k * 3 + 2, none⟩ = some (.int .i64 x3) ∧ (w5.setCell ⟨g, k * 3 + 2, none⟩ v).drew.cell? ⟨b, off + m * 3 + 2, none⟩ = some (.int .i64 y3) ∧
      (w5.setCell ⟨g, k * 3 + 2, none⟩ v).drew.cell? ⟨g, k * 3 + 1, none⟩ = some (.int .i64 (x2 + y2))) := fun v =>
    ⟨(World.cell?_setCell_other w5 ⟨g, k * 3 + 2, none⟩ ⟨b, off + k * 3 + 1, none⟩ v (by simp; try omega)).trans q1', (World.cell?_setCell_other w5 ⟨g, k * 3 + 2, none⟩ ⟨b, off + m * 3 + 1, none⟩ v (by simp; try omega)).trans p1',
     (World.cell?_setCell_other w5 ⟨g, k * 3 + 2, none⟩ ⟨b, off + k * 3 + 2, none⟩ v (by simp; try omega)).trans q2', (World.cell?_setCell_other w5 ⟨g, k * 3 + 2, none⟩ ⟨b, off + m * 3 + 2, none⟩ v (by simp; try omega)).trans p2',
     (World.cell?_setCell_other w5 ⟨g, k * 3 + 2, none⟩ ⟨g, k * 3 + 1, none⟩ v (by simp)).trans a1⟩
  have Hks := Lib.hid hks
  clear hks
  go_region_held3 (fun u => u.cell? ⟨b, off + k * 3 + 1, none⟩ = some (.int .i64 x2) ∧ u.cell? ⟨b, off + m * 3 + 1, none⟩ = some (.int .i64 y2) ∧ u.cell? ⟨b, off + k * 3 + 2, none⟩ = some (.int .i64 x3) ∧ u.cell? ⟨b, off + m * 3 + 2, none⟩ = some (.int .i64 y3) ∧ u.cell? ⟨g, k * 3 + 1, none⟩ = some (.int .i64 (x2 + y2))) (first | exact Hks.out _ | go_keep) (first | fail)
  go_wp2_with fail
  obtain ⟨q, hq⟩ : ∃ q, Hid (q = (x2 * x3 + y2 * y3) / (x2 + y2)) := ⟨_, rfl⟩
  rw [← hq.out]
  rw [← hq.out] at hv
  have r2 := own_setS2 hown5 Hx5.out q
  have hown6 : ((w5.setCell ⟨g, k * 3 + 2, none⟩ (.int .i64 q)).drew).ownsRow w2.heap.size 44 3 (.slice (some ⟨g, 0, none⟩) l.length c') l.length (flat (l.set k (x1, x2 + y2, q))) := by have := r2.1.drew; rw [List.set_set] at this; exact this
  have hG6 : Gw w (w5.setCell ⟨g, k * 3 + 2, none⟩ (.int .i64 q)).drew := (hG5.grown r2.2 (fun k hk => by have := hG2.size; simp at hk; omega)).drew
  have hG26 : Gw w2 (w5.setCell ⟨g, k * 3 + 2, none⟩ (.int .i64 q)).drew := (hG25.grown r2.2 (fun k hk => by simp at hk; omega)).drew
  clear a1 a2 fz2 md1 md2 md3 sw1 sw2 sw3 sw4 sw5 nz1 nz2 q1' q2' p1' p2' Hks hown5 r2 hG5 hG25
  generalize (w5.setCell ⟨g, k * 3 + 2, none⟩ (.int .i64 q)).drew = w6 at *
  obtain ⟨L, hL⟩ : ∃ L, Hid (L = l.set k (x1, x2 + y2, q)) := ⟨_, rfl⟩
  rw [← hL.out] at hown6 hv
  have hLl : Hid (L.length = l.length) := by unfold Hid; rw [hL.out, List.length_set]
  have hcc : l.length ≤ c' := by
    obtain ⟨_, _, hv, hc, _⟩ := own_form hown6
    simp only [Value.slice.injEq, true_and] at hv
    obtain ⟨rfl, rfl⟩ := hv
    exact hc
  have hrd : Rd w6 (some ⟨g, 0, none⟩) L := own_rd (α := Sec) (by rw [hLl.out]; exact hown6)
  have hlt : Hid ((L.take m).length = m) := by unfold Hid; rw [List.length_take, hLl.out]; omega
  have hld : Hid ((L.drop (m + 1)).length = l.length - (m + 1)) := by unfold Hid; rw [List.length_drop, hLl.out]
  have hrt := hrd.take m
  have hrdd := hrd.drop (m + 1)
  clear hrd
  have cm1 : (m : Int) ≤ (c' : Int) := by omega
  have cm2 : (m : Int) + 1 ≤ (l.length : Int) := by omega
  have cm3 : (l.length : Int) ≤ (c' : Int) := by omega
  have cm4 : (0 : Int) ≤ (m : Int) + 1 := by omega
  have sm : IntKind.i64.wrap ((m : Int) + 1) = (m : Int) + 1 := IntWalk.i64_in _ (by omega)
  have tm : ((m : Int) + 1).toNat = m + 1 := by omega
  by_cases hcap : c' = m + 1
  · have hle : l.length = m + 1 := by omega
    have hrn : Rd w6 (some ⟨g, 0, none⟩) (L.drop (m + 1)) := by rw [List.drop_of_length_le (by rw [hLl.out]; omega)]; exact Rd.nil
    subst hcap
    have hle := Lib.hid hle
    have cm5 : (m : Int) ≤ (m : Int) + 1 := by omega
    have cm6 : (l.length : Int) ≤ (m : Int) + 1 := by omega
    go_region_held3 (fun u => Gw w6 u) (first | exact Gw.refl _ | (exact (Gw.refl _).drew) | (exact ((Gw.refl _).alloc _).drew) | exact hgw7 | go_keep)
      (first
        | (refine step_cat (α := Sec) rfl (.tmp 75) (.tmp 78) 27 (by rfl) w6.heap.size 44 i0 _ 32 Try.underlying27 hi hz0 hz1 hz2 rfl (by omega) [] 0 rfl (some ⟨w6.heap.size, 0, none⟩) 0 (by rfl) (L.take m) m hlt.out (some ⟨g, 0, none⟩) (m + 1) (by rfl) (hrt.gw ((Gw.refl _).alloc _).drew) (World.ownsRow_made w6 #[] 0 (Nat.le_refl _) (by simp [maxLen]) (by simp)).drew (by omega) (by omega) (by simp) ?_; intro A7 c7 w7 hown7 hgg7 hgr7; have hgw7 : Gw w6 w7 := hgg7 w6 ((Gw.refl _).alloc _).drew (Nat.le_refl _); clear hgg7 hgr7; simp only [List.nil_append] at hown7)
        | (refine step_cat (α := Sec) rfl (.tmp 79) (.tmp 83) 27 (by rfl) w6.heap.size 44 i0 _ 32 Try.underlying27 hi hz0 hz1 hz2 rfl (by omega) (L.take m) (0 + m) (by rw [Nat.zero_add]; exact hlt.out) _ _ (by rfl) (L.drop (m + 1)) _ ?_ _ _ (by rfl) (hrn.gw (by assumption)) (by assumption) (by omega) ?_ (Gw.size (by assumption)) ?_; (have := hld.out; omega); (have := hld.out; omega); intro A8 c8 w8 hown8 hgg8 hgr8; have hgw8 : Gw w6 w8 := hgg8 w6 (by assumption) (Nat.le_refl _); clear hgg8 hgr8)
        | fail)
    have hle := hle.out
    go_wp2_with fail
    go_ret2
    exact ⟨A8, c8, ret_lbn hv.out (by rw [List.length_append, hlt.out, hld.out] <;> omega), by rw [hv.out]; exact own_lower (own_renum hown8 (by rw [List.length_append, hlt.out, hld.out] <;> omega)) hG6.size, by (repeat (first | with_reducible exact Gw.refl _ | with_reducible assumption | ((with_reducible refine Gw.set ?_ ?_ _); rotate_left; (focus (first | (simp; done) | (simp; omega) | omega))) | with_reducible refine Gw.alloc ?_ _ | with_reducible refine Gw.drew ?_ | with_reducible refine Gw.drewN ?_ _ | (refine Gw.trans ?_ (by with_reducible assumption))))⟩
  · have hcapF : ¬(c' = m + 1) := hcap
    simp only [Nat.zero_add, show Flat.sz Sec = 3 from rfl] at hrdd
    go_region_held3 (fun u => Gw w6 u) (first | exact Gw.refl _ | (exact (Gw.refl _).drew) | (exact ((Gw.refl _).alloc _).drew) | exact hgw7 | go_keep)
      (first
        | (refine step_cat (α := Sec) rfl (.tmp 75) (.tmp 78) 27 (by rfl) w6.heap.size 44 i0 _ 32 Try.underlying27 hi hz0 hz1 hz2 rfl (by omega) [] 0 rfl (some ⟨w6.heap.size, 0, none⟩) 0 (by rfl) (L.take m) m hlt.out (some ⟨g, 0, none⟩) c' (by rfl) (hrt.gw ((Gw.refl _).alloc _).drew) (World.ownsRow_made w6 #[] 0 (Nat.le_refl _) (by simp [maxLen]) (by simp)).drew (by omega) (by omega) (by simp) ?_; intro A7 c7 w7 hown7 hgg7 hgr7; have hgw7 : Gw w6 w7 := hgg7 w6 ((Gw.refl _).alloc _).drew (Nat.le_refl _); clear hgg7 hgr7; simp only [List.nil_append] at hown7)
        | (refine step_cat (α := Sec) rfl (.tmp 79) (.tmp 83) 27 (by rfl) w6.heap.size 44 i0 _ 32 Try.underlying27 hi hz0 hz1 hz2 rfl (by omega) (L.take m) (0 + m) (by rw [Nat.zero_add]; exact hlt.out) _ _ (by rfl) (L.drop (m + 1)) _ ?_ _ _ (by rfl) (hrdd.gw (by assumption)) (by assumption) (by omega) ?_ (Gw.size (by assumption)) ?_; (have := hld.out; omega); (have := hld.out; omega); intro A8 c8 w8 hown8 hgg8 hgr8; have hgw8 : Gw w6 w8 := hgg8 w6 (by assumption) (Nat.le_refl _); clear hgg8 hgr8)
        | fail)
    go_wp2_with fail
    go_ret2
    exact ⟨A8, c8, ret_lbn hv.out (by rw [List.length_append, hlt.out, hld.out] <;> omega), by rw [hv.out]; exact own_lower (own_renum hown8 (by rw [List.length_append, hlt.out, hld.out] <;> omega)) hG6.size, by (repeat (first | with_reducible exact Gw.refl _ | with_reducible assumption | ((with_reducible refine Gw.set ?_ ?_ _); rotate_left; (focus (first | (simp; done) | (simp; omega) | omega))) | with_reducible refine Gw.alloc ?_ _ | with_reducible refine Gw.drew ?_ | with_reducible refine Gw.drewN ?_ _ | (refine Gw.trans ?_ (by with_reducible assumption))))⟩

set_option maxHeartbeats 4000000 in
set_option maxRecDepth 100000 in
theorem i_JoinSections (A : Option Addr) (c : Nat) (l : List Sec) (f t : Int) (w : World) (hl : l.length ≤ 1048576) (hz : ∀ x ∈ l, x.1.size ≤ 9223372036854775807) (hA : Rd w A l) (hlc : l.length ≤ c) :
    Calls Try.prog 30 #[.slice A l.length c, .int .i64 f, .int .i64 t] w fun e w' => ∃ A c, e = .returned (.tuple #[.slice A (joinF l f t).1.length c, .bool (joinF l f t).2]) ∧ w'.ownsRow w.heap.size 44 3 (.slice A ((joinF l f t).1).length c) ((joinF l f t).1).length (flat ((joinF l f t).1)) ∧ Gw w w' := by
  have Hz := Lib.hid hz
  clear hz
  have HA := Lib.hid hA
  obtain ⟨i0, hi, hz0, hz1, hz2⟩ := info_parts infoSection
  go_enter Try.func30, Try.ntmps30
  go_wp2_with fail
  refine (i_isSection _ _ _ _ _ hl Hz.out (hA.gw (by (repeat (first | with_reducible exact Gw.refl _ | with_reducible assumption | ((with_reducible refine Gw.set ?_ ?_ _); rotate_left; (focus (first | (simp; done) | (simp; omega) | omega))) | with_reducible refine Gw.alloc ?_ _ | with_reducible refine Gw.drew ?_ | with_reducible refine Gw.drewN ?_ _ | (refine Gw.trans ?_ (by with_reducible assumption)))))) hlc).mono ?_
  rintro _ w1 (⟨hp, rfl, hb1⟩ | ⟨hp, rfl, hb1⟩)
  case inr =>
    have hno := Lib.hid (joinF_bad (l := l) (i := f) (k := t) (fun h => hp h.1))
    clear hp
    go_wp2_with fail
    go_ret2
    exact ⟨none, 0, ret_lb (A := none) (c := 0) hno.out, by rw [hno.out]; exact World.ownsRow_nil _ _ _ _, by (repeat (first | with_reducible exact Gw.refl _ | with_reducible assumption | ((with_reducible refine Gw.set ?_ ?_ _); rotate_left; (focus (first | (simp; done) | (simp; omega) | omega))) | with_reducible refine Gw.alloc ?_ _ | with_reducible refine Gw.drew ?_ | with_reducible refine Gw.drewN ?_ _ | (refine Gw.trans ?_ (by with_reducible assumption))))⟩
  have HF := Lib.hid hp
  have hf := hp.2
  clear hp
  go_wp2_with fail
  refine (i_isSection _ _ _ _ _ hl Hz.out (hA.gw (by (repeat (first | with_reducible exact Gw.refl _ | with_reducible assumption | ((with_reducible refine Gw.set ?_ ?_ _); rotate_left; (focus (first | (simp; done) | (simp; omega) | omega))) | with_reducible refine Gw.alloc ?_ _ | with_reducible refine Gw.drew ?_ | with_reducible refine Gw.drewN ?_ _ | (refine Gw.trans ?_ (by with_reducible assumption)))))) hlc).mono ?_
  rintro _ w2 (⟨hp, rfl, hb2⟩ | ⟨hp, rfl, hb2⟩)
  case inr =>
    have hno := Lib.hid (joinF_bad (l := l) (i := f) (k := t) (fun h => hp h.2.1))
    clear hp
    go_wp2_with fail
    go_ret2
    exact ⟨none, 0, ret_lb (A := none) (c := 0) hno.out, by rw [hno.out]; exact World.ownsRow_nil _ _ _ _, by (repeat (first | with_reducible exact Gw.refl _ | with_reducible assumption | ((with_reducible refine Gw.set ?_ ?_ _); rotate_left; (focus (first | (simp; done) | (simp; omega) | omega))) | with_reducible refine Gw.alloc ?_ _ | with_reducible refine Gw.drew ?_ | with_reducible refine Gw.drewN ?_ _ | (refine Gw.trans ?_ (by with_reducible assumption))))⟩
  have HT := Lib.hid hp
  have ht := hp.2
  clear hp
  have hG2 : Gw w w2 := by (repeat (first | with_reducible exact Gw.refl _ | with_reducible assumption | ((with_reducible refine Gw.set ?_ ?_ _); rotate_left; (focus (first | (simp; done) | (simp; omega) | omega))) | with_reducible refine Gw.alloc ?_ _ | with_reducible refine Gw.drew ?_ | with_reducible refine Gw.drewN ?_ _ | (refine Gw.trans ?_ (by with_reducible assumption))))
  obtain ⟨k, rfl⟩ : ∃ k : Nat, f = k := ⟨f.toNat, by omega⟩
  obtain ⟨m, rfl⟩ : ∃ m : Nat, t = m := ⟨t.toNat, by omega⟩
  by_cases hkm : k = m
  · have e1 : ((k : Int) == (m : Int)) = true := by simp [hkm]
    have hno := Lib.hid (joinF_bad (l := l) (i := k) (k := m) (fun h => h.2.2 (by rw [hkm])))
    clear hkm
    go_wp2_with fail
    go_ret2
    exact ⟨none, 0, ret_lb (A := none) (c := 0) hno.out, by rw [hno.out]; exact World.ownsRow_nil _ _ _ _, by (repeat (first | with_reducible exact Gw.refl _ | with_reducible assumption | ((with_reducible refine Gw.set ?_ ?_ _); rotate_left; (focus (first | (simp; done) | (simp; omega) | omega))) | with_reducible refine Gw.alloc ?_ _ | with_reducible refine Gw.drew ?_ | with_reducible refine Gw.drewN ?_ _ | (refine Gw.trans ?_ (by with_reducible assumption))))⟩
  have e1 : ((k : Int) == (m : Int)) = false := by simp; omega
  obtain ⟨x, hx⟩ := get_of_lt (l := l) (k := k) (by omega)
  obtain ⟨y, hy⟩ := get_of_lt (l := l) (k := m) (by omega)
  have hxp := HF.out.1.1 x (mem_of_get hx)
  have hyp := HF.out.1.1 y (mem_of_get hy)
  have hxb := hxp.2.1
  have hyb := hyp.2.1
  obtain ⟨x1, x2, x3⟩ := x
  obtain ⟨y1, y2, y3⟩ := y
  have hxm : 0 ≤ x2 * x3 ∧ x2 * x3 ≤ 6000 := loud_bd hxp
  have hym : 0 ≤ y2 * y3 ∧ y2 * y3 ≤ 6000 := loud_bd hyp
  obtain ⟨b, off, hae, hb, c0, c1, c2⟩ := (hA.gw hG2).getS hx
  subst hae
  obtain ⟨b', off', hae, hb', d0, d1, d2⟩ := (hA.gw hG2).getS hy
  simp only [Option.some.injEq, Addr.mk.injEq, and_true] at hae
  obtain ⟨rfl, rfl⟩ := hae
  dsimp only at c0 c1 c2 hxb hyb d0 d1 d2
  have Hx := Lib.hid hx
  have Hy := Lib.hid hy
  clear hx hy hA hxp hyp c0 d0
  have hv := Lib.hid (joinF_good (l := l) (i := k) (k := m) ⟨HF.out, HT.out, by omega⟩ Hx.out Hy.out)
  unfold mixS at hv
  dsimp only at hv
  have hkl : k < l.length := by omega
  have hml : m < l.length := by omega
  have hl10 := HF.out.1.2.2.1.2
  go_wp2_with ((at_builtin; refine wpList_catAny (α := Sec) rfl (.tmp 24) (.tmp 25) 27 rfl w2.heap.size 44 i0 _ 32 Try.underlying27 hi hz0 hz1 hz2 rfl (by omega) [] (some ⟨w2.heap.size, 0, none⟩) 0 rfl l l.length rfl (some ⟨b, off, none⟩) c rfl (HA.out.gw (by (repeat (first | with_reducible exact Gw.refl _ | with_reducible assumption | ((with_reducible refine Gw.set ?_ ?_ _); rotate_left; (focus (first | (simp; done) | (simp; omega) | omega))) | with_reducible refine Gw.alloc ?_ _ | with_reducible refine Gw.drew ?_ | with_reducible refine Gw.drewN ?_ _ | (refine Gw.trans ?_ (by with_reducible assumption)))))) (World.ownsRow_made w2 #[] 0 (Nat.le_refl _) (by simp [maxLen]) (by simp)) (by simp) (by omega) (by simp) ?_; intro acc' A' c' w4 hacc' hl1 hown hgg); have he : l = acc' := (by rw [hacc'.out, List.nil_append]); subst he; have hb4 : Gw w2 w4 := hgg w2 (by (repeat (first | with_reducible exact Gw.refl _ | with_reducible assumption | ((with_reducible refine Gw.set ?_ ?_ _); rotate_left; (focus (first | (simp; done) | (simp; omega) | omega))) | with_reducible refine Gw.alloc ?_ _ | with_reducible refine Gw.drew ?_ | with_reducible refine Gw.drewN ?_ _ | (refine Gw.trans ?_ (by with_reducible assumption))))) (Nat.le_refl _); have hown : w4.ownsRow w2.heap.size 44 3 (.slice A' l.length c') l.length (flat l) := hown; clear hgg hacc' hl1; have hG4 : Gw w w4 := Gw.trans hG2 hb4; have hz4 := hb4.size; (try simp at hz4); obtain ⟨g, rfl, hbg, hg⟩ := own_addr hown (by omega))
  have q1 : w4.cell? ⟨b, off + k * 3 + 1, none⟩ = some (.int .i64 x2) := by rw [hb4.cells _ _ hb]; exact c1
  have q2 : w4.cell? ⟨b, off + k * 3 + 2, none⟩ = some (.int .i64 x3) := by rw [hb4.cells _ _ hb]; exact c2
  have p1 : w4.cell? ⟨b, off + m * 3 + 1, none⟩ = some (.int .i64 y2) := by rw [hb4.cells _ _ hb]; exact d1
  have p2 : w4.cell? ⟨b, off + m * 3 + 2, none⟩ = some (.int .i64 y3) := by rw [hb4.cells _ _ hb]; exact d2
  clear c1 c2 d1 d2
  have o1 := (own_cellsS hown Hx.out).2.1
  have o2 := (own_cellsS hown Hx.out).2.2
  dsimp only at o1 o2
  have fz1 := World.ownsRow.frozenAt hown (k * 3 + 1)
  have fz2 := World.ownsRow.frozenAt hown (k * 3 + 2)
  have bk0 : (0 : Int) ≤ (k : Int) := by omega
  have bk1 : (k : Int) < (l.length : Int) := by omega
  have bm0 : (0 : Int) ≤ (m : Int) := by omega
  have bm1 : (m : Int) < (l.length : Int) := by omega
  have sw : IntKind.i64.wrap (x2 + y2) = x2 + y2 := IntWalk.i64_in _ (by omega)
  have hbg2 : ¬(b = g) := by omega
  have hbg3 : ¬(g = b) := by omega
  have hks : ∀ (v : Value), ((w4.setCell ⟨g, k * 3 + 1, none⟩ v).drew.cell? ⟨b, off + k * 3 + 1, none⟩ = some (.int .i64 x2) ∧ (w4.setCell ⟨g, k * 3 + 1, none⟩ v).drew.cell? ⟨b, off + m * 3 + 1, none⟩ = some (.int .i64 y2)) := fun v =>
    ⟨(World.cell?_setCell_other w4 ⟨g, k * 3 + 1, none⟩ ⟨b, off + k * 3 + 1, none⟩ v (by simp; try omega)).trans q1, (World.cell?_setCell_other w4 ⟨g, k * 3 + 1, none⟩ ⟨b, off + m * 3 + 1, none⟩ v (by simp; try omega)).trans p1⟩
  have Hks := Lib.hid hks
  clear hks
  go_region_held3 (fun u => u.cell? ⟨b, off + k * 3 + 1, none⟩ = some (.int .i64 x2) ∧ u.cell? ⟨b, off + m * 3 + 1, none⟩ = some (.int .i64 y2)) (first | exact Hks.out _ | go_keep) (first | fail)
  go_wp2_with fail
  have r1 := own_setS1 hown Hx.out (x2 + y2)
  have hown5 : ((w4.setCell ⟨g, k * 3 + 1, none⟩ (.int .i64 (x2 + y2))).drew).ownsRow w2.heap.size 44 3 (.slice (some ⟨g, 0, none⟩) l.length c') l.length (flat (l.set k (x1, x2 + y2, x3))) := r1.1.drew
  have hG5 : Gw w (w4.setCell ⟨g, k * 3 + 1, none⟩ (.int .i64 (x2 + y2))).drew := (hG4.grown r1.2 (fun k hk => by have := hG2.size; simp at hk; omega)).drew
  have hG25 : Gw w2 (w4.setCell ⟨g, k * 3 + 1, none⟩ (.int .i64 (x2 + y2))).drew := (hb4.grown r1.2 (fun k hk => by simp at hk; omega)).drew
  have q1' := (Hks.out (.int .i64 (x2 + y2))).1
  have p1' := (Hks.out (.int .i64 (x2 + y2))).2
  have q2' : (w4.setCell ⟨g, k * 3 + 1, none⟩ (.int .i64 (x2 + y2))).drew.cell? ⟨b, off + k * 3 + 2, none⟩ = some (.int .i64 x3) := (World.cell?_setCell_other w4 ⟨g, k * 3 + 1, none⟩ ⟨b, off + k * 3 + 2, none⟩ _ (by simp; try omega)).trans q2
  have p2' : (w4.setCell ⟨g, k * 3 + 1, none⟩ (.int .i64 (x2 + y2))).drew.cell? ⟨b, off + m * 3 + 2, none⟩ = some (.int .i64 y3) := (World.cell?_setCell_other w4 ⟨g, k * 3 + 1, none⟩ ⟨b, off + m * 3 + 2, none⟩ _ (by simp; try omega)).trans p2
  clear q1 q2 p1 p2 o1 o2 fz1 fz2 Hks hown r1
  generalize (w4.setCell ⟨g, k * 3 + 1, none⟩ (.int .i64 (x2 + y2))).drew = w5 at *
  have Hx5 : Hid ((l.set k (x1, x2 + y2, x3))[k]? = some (x1, x2 + y2, x3)) := by unfold Hid; simp [hkl]
  have a1 := (own_cellsN hown5 (by simp) Hx5.out).2.1
  have a2 := (own_cellsN hown5 (by simp) Hx5.out).2.2
  dsimp only at a1 a2
  have fz2 := World.ownsRow.frozenAt hown5 (k * 3 + 2)
  obtain ⟨md1, md2, md3⟩ := mix_bd (a := x2) (b := y2) (c := x3) (d := y3) hxb.1 hyb.1 hxm hym
  obtain ⟨N, hN⟩ : ∃ N, N = x2 * x3 + y2 * y3 := ⟨_, rfl⟩
  have sw1 : IntKind.i64.wrap (x2 * x3) = x2 * x3 := IntWalk.i64_in _ (by omega)
  have sw2 : IntKind.i64.wrap (y2 * y3) = y2 * y3 := IntWalk.i64_in _ (by omega)
  have sw3 : IntKind.i64.wrap (x2 * x3 + y2 * y3) = x2 * x3 + y2 * y3 := IntWalk.i64_in _ (by omega)
  have sw4 : IntKind.i64.wrap ((x2 * x3 + y2 * y3).tdiv (x2 + y2)) = (x2 * x3 + y2 * y3) / (x2 + y2) := by rw [md3]; exact IntWalk.i64_in _ (by omega)
  have sw5 : IntKind.i64.wrap ((x2 * x3 + y2 * y3) / (x2 + y2)) = (x2 * x3 + y2 * y3) / (x2 + y2) := IntWalk.i64_in _ (by omega)
  have nz1 : ¬(x2 + y2 = 0) := by omega
  have nz2 : (x2 + y2 == 0) = false := by simp; omega
  clear hN sw
  have hks : ∀ (v : Value), ((w5.setCell ⟨g, k * 3 + 2, none⟩ v).drew.cell? ⟨b, off + k * 3 + 1, none⟩ = some (.int .i64 x2) ∧ (w5.setCell ⟨g, k * 3 + 2, none⟩ v).drew.cell? ⟨b, off + m * 3 + 1, none⟩ = some (.int .i64 y2) ∧
      (w5.setCell ⟨g, k * 3 + 2, none⟩ v).drew.cell? ⟨b, off + k * 3 + 2, none⟩ = some (.int .i64 x3) ∧ (w5.setCell ⟨g, k * 3 + 2, none⟩ v).drew.cell? ⟨b, off + m * 3 + 2, none⟩ = some (.int .i64 y3) ∧
      (w5.setCell ⟨g, k * 3 + 2, none⟩ v).drew.cell? ⟨g, k * 3 + 1, none⟩ = some (.int .i64 (x2 + y2))) := fun v =>
    ⟨(World.cell?_setCell_other w5 ⟨g, k * 3 + 2, none⟩ ⟨b, off + k * 3 + 1, none⟩ v (by simp; try omega)).trans q1', (World.cell?_setCell_other w5 ⟨g, k * 3 + 2, none⟩ ⟨b, off + m * 3 + 1, none⟩ v (by simp; try omega)).trans p1',
     (World.cell?_setCell_other w5 ⟨g, k * 3 + 2, none⟩ ⟨b, off + k * 3 + 2, none⟩ v (by simp; try omega)).trans q2', (World.cell?_setCell_other w5 ⟨g, k * 3 + 2, none⟩ ⟨b, off + m * 3 + 2, none⟩ v (by simp; try omega)).trans p2',
     (World.cell?_setCell_other w5 ⟨g, k * 3 + 2, none⟩ ⟨g, k * 3 + 1, none⟩ v (by simp)).trans a1⟩
  have Hks := Lib.hid hks
  clear hks
  go_region_held3 (fun u => u.cell? ⟨b, off + k * 3 + 1, none⟩ = some (.int .i64 x2) ∧ u.cell? ⟨b, off + m * 3 + 1, none⟩ = some (.int .i64 y2) ∧ u.cell? ⟨b, off + k * 3 + 2, none⟩ = some (.int .i64 x3) ∧ u.cell? ⟨b, off + m * 3 + 2, none⟩ = some (.int .i64 y3) ∧ u.cell? ⟨g, k * 3 + 1, none⟩ = some (.int .i64 (x2 + y2))) (first | exact Hks.out _ | go_keep) (first | fail)
  go_wp2_with fail
  obtain ⟨q, hq⟩ : ∃ q, Hid (q = (x2 * x3 + y2 * y3) / (x2 + y2)) := ⟨_, rfl⟩
  rw [← hq.out]
  rw [← hq.out] at hv
  have r2 := own_setS2 hown5 Hx5.out q
  have hown6 : ((w5.setCell ⟨g, k * 3 + 2, none⟩ (.int .i64 q)).drew).ownsRow w2.heap.size 44 3 (.slice (some ⟨g, 0, none⟩) l.length c') l.length (flat (l.set k (x1, x2 + y2, q))) := by have := r2.1.drew; rw [List.set_set] at this; exact this
  have hG6 : Gw w (w5.setCell ⟨g, k * 3 + 2, none⟩ (.int .i64 q)).drew := (hG5.grown r2.2 (fun k hk => by have := hG2.size; simp at hk; omega)).drew
  have hG26 : Gw w2 (w5.setCell ⟨g, k * 3 + 2, none⟩ (.int .i64 q)).drew := (hG25.grown r2.2 (fun k hk => by simp at hk; omega)).drew
  clear a1 a2 fz2 md1 md2 md3 sw1 sw2 sw3 sw4 sw5 nz1 nz2 q1' q2' p1' p2' Hks hown5 r2 hG5 hG25
  generalize (w5.setCell ⟨g, k * 3 + 2, none⟩ (.int .i64 q)).drew = w6 at *
  obtain ⟨L, hL⟩ : ∃ L, Hid (L = l.set k (x1, x2 + y2, q)) := ⟨_, rfl⟩
  rw [← hL.out] at hown6 hv
  have hLl : Hid (L.length = l.length) := by unfold Hid; rw [hL.out, List.length_set]
  have hcc : l.length ≤ c' := by
    obtain ⟨_, _, hv, hc, _⟩ := own_form hown6
    simp only [Value.slice.injEq, true_and] at hv
    obtain ⟨rfl, rfl⟩ := hv
    exact hc
  have hrd : Rd w6 (some ⟨g, 0, none⟩) L := own_rd (α := Sec) (by rw [hLl.out]; exact hown6)
  have hlt : Hid ((L.take m).length = m) := by unfold Hid; rw [List.length_take, hLl.out]; omega
  have hld : Hid ((L.drop (m + 1)).length = l.length - (m + 1)) := by unfold Hid; rw [List.length_drop, hLl.out]
  have hrt := hrd.take m
  have hrdd := hrd.drop (m + 1)
  clear hrd
  have cm1 : (m : Int) ≤ (c' : Int) := by omega
  have cm2 : (m : Int) + 1 ≤ (l.length : Int) := by omega
  have cm3 : (l.length : Int) ≤ (c' : Int) := by omega
  have cm4 : (0 : Int) ≤ (m : Int) + 1 := by omega
  have sm : IntKind.i64.wrap ((m : Int) + 1) = (m : Int) + 1 := IntWalk.i64_in _ (by omega)
  have tm : ((m : Int) + 1).toNat = m + 1 := by omega
  go_wp2_with fail
  refine (i_Delete g c' l.length m w2.heap.size L w6 hLl.out hml (by omega) hown6).mono ?_
  rintro _ w7 ⟨rfl, hown7, hg7⟩
  have hlen : (L.take m ++ L.drop (m + 1)).length = l.length - 1 := by rw [List.length_append, hlt.out, hld.out]; omega
  have Hlen := Lib.hid hlen
  clear hlen
  go_wp2_with fail
  go_ret2
  exact ⟨some ⟨g, 0, none⟩, c', ret_lbn hv.out Hlen.out, by rw [hv.out]; exact own_lower (own_renum hown7 Hlen.out.symm) (by have := hG2.size; omega), hG6.grown hg7 (fun k hk => by have := hG2.size; simp at hk; omega)⟩
end Go.Proofs.Ytopaekijhkfhpaa
